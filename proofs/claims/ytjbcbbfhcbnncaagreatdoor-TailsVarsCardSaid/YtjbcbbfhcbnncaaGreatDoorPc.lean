/- Parts of the proof: AmTac, CodeD, WordsM. -/
import Derived.Test.YtjbcbbfhcbnncaaGreatDoorPb
set_option linter.unusedVariables false
set_option linter.unusedSimpArgs false
set_option maxRecDepth 100000
namespace Go.Proofs.YtjbcbbfhcbnncaaGreatDoor.Am
section
open Go.RowKit
inductive Tri : Prop → Prop
 | tt : Tri True
 | any (p : Prop) : Tri p
structure Hid (p : Prop) : Prop where
 v : p
theorem tt : True := True.intro
theorem fs {a b : Prop} (x : a) (y : b) : a ∧ b := And.intro x y
theorem G0 {q p : Prop} (hp : p) (h : (Hid p → q) ∧ Tri p := by
 constructor
 ·intro hp
  repeat (first | refine AW.seq ?_ | refine AW.block ?_ | (refine AW.reg mix ?_; (simp -implicitDefEqProofs; try simp (disch := omega) only [w64, wu64])) | (refine need.of (by first | omega | kernel_rfl) ?_) | (refine AW.fin ?_; try (simp -implicitDefEqProofs; try simp (disch := omega) only [w64, wu64])))
  try exact hp.v
 ·with_reducible first | exact Tri.tt | exact Tri.any _) : q := (h).1 ⟨hp⟩
theorem R0 {q p : Prop} (hp : p) (h : (Hid p → q) ∧ Tri p := by
 constructor
 ·intro hp
  try (simp -implicitDefEqProofs; try simp (disch := omega) only [w64, wu64])
  repeat (first | refine AW.seq ?_ | refine AW.block ?_ | (refine AW.reg mix ?_; (simp -implicitDefEqProofs; try simp (disch := omega) only [w64, wu64])) | (refine need.of (by first | omega | kernel_rfl) ?_) | (refine AW.fin ?_; try (simp -implicitDefEqProofs; try simp (disch := omega) only [w64, wu64])))
  try exact hp.v
 ·with_reducible first | exact Tri.tt | exact Tri.any _) : q := (h).1 ⟨hp⟩
theorem A00 {q p : Prop} (hp : p) (h : (Hid p → q) ∧ Tri p := by
 constructor
 ·intro hp
  repeat (first | refine AW.seq ?_ | refine AW.block ?_ | (refine AW.reg mix ?_; (simp -implicitDefEqProofs; try simp (disch := omega) only [w64, wu64])) | (refine need.of (by first | omega | kernel_rfl) ?_) | (refine AW.fin ?_; try (simp -implicitDefEqProofs; try simp (disch := omega) only [w64, wu64])) | (refine AW.cond rfl ?_ (fun _ => ?_); focus (intro h; simp -implicitDefEqProofs at h; done)) | (refine AW.cond rfl (fun _ => ?_) ?_; rotate_left; focus (intro h; simp -implicitDefEqProofs at h; done)))
  try exact hp.v
 ·with_reducible first | exact Tri.tt | exact Tri.any _) : q := (h).1 ⟨hp⟩
theorem A01 {q p c1 : Prop} (k1 : c1) (hp : p) (h : c1 → (Hid p → q) ∧ Tri p := by
 intro c1
 constructor
 ·intro hp
  repeat (first | refine AW.seq ?_ | refine AW.block ?_ | (refine AW.reg mix ?_; (simp -implicitDefEqProofs; try simp (disch := omega) only [w64, wu64])) | (refine need.of (by first | omega | kernel_rfl) ?_) | (refine AW.fin ?_; try (simp -implicitDefEqProofs; try simp (disch := omega) only [w64, wu64])) | (refine AW.cond rfl ?_ (fun _ => ?_); focus (intro h; simp -implicitDefEqProofs at h; done)) | (refine AW.cond rfl (fun _ => ?_) ?_; rotate_left; focus (intro h; simp -implicitDefEqProofs at h; done)) | (refine CallS.pu c1 ?_; try (simp -implicitDefEqProofs; try simp (disch := omega) only [w64, wu64])) | refine Exists.intro _ (And.intro c1 ?_))
  try exact hp.v
 ·with_reducible first | exact Tri.tt | exact Tri.any _) : q := (h k1).1 ⟨hp⟩
theorem A02 {q p c1 c2 : Prop} (k1 : c1) (k2 : c2) (hp : p) (h : c1 → c2 → (Hid p → q) ∧ Tri p := by
 intro c1 c2
 constructor
 ·intro hp
  repeat (first | refine AW.seq ?_ | refine AW.block ?_ | (refine AW.reg mix ?_; (simp -implicitDefEqProofs; try simp (disch := omega) only [w64, wu64])) | (refine need.of (by first | omega | kernel_rfl) ?_) | (refine AW.fin ?_; try (simp -implicitDefEqProofs; try simp (disch := omega) only [w64, wu64])) | (refine AW.cond rfl ?_ (fun _ => ?_); focus (intro h; simp -implicitDefEqProofs at h; done)) | (refine AW.cond rfl (fun _ => ?_) ?_; rotate_left; focus (intro h; simp -implicitDefEqProofs at h; done)) | (refine CallS.pu c1 ?_; try (simp -implicitDefEqProofs; try simp (disch := omega) only [w64, wu64])) | refine Exists.intro _ (And.intro c1 ?_) | (refine CallS.pu c2 ?_; try (simp -implicitDefEqProofs; try simp (disch := omega) only [w64, wu64])) | refine Exists.intro _ (And.intro c2 ?_))
  try exact hp.v
 ·with_reducible first | exact Tri.tt | exact Tri.any _) : q := (h k1 k2).1 ⟨hp⟩
theorem G1 {q f1 : Prop} {p : f1 → Prop} (f : f1) (hp : (p f)) (h : ∀ f1 : f1, (Hid (p f1) → q) ∧ Tri (p f1) := by
 intro f1
 constructor
 ·intro hp
  repeat (first | refine AW.seq ?_ | refine AW.block ?_ | (refine AW.reg mix ?_; (simp -implicitDefEqProofs [f1]; try simp (disch := omega) only [w64, wu64])) | (refine need.of (by first | omega | kernel_rfl) ?_) | (refine AW.fin ?_; try (simp -implicitDefEqProofs [f1]; try simp (disch := omega) only [w64, wu64])))
  try exact hp.v
 ·with_reducible first | exact Tri.tt | exact Tri.any _) : q := (h f).1 ⟨hp⟩
theorem R1 {q f1 : Prop} {p : f1 → Prop} (f : f1) (hp : (p f)) (h : ∀ f1 : f1, (Hid (p f1) → q) ∧ Tri (p f1) := by
 intro f1
 constructor
 ·intro hp
  try (simp -implicitDefEqProofs [f1]; try simp (disch := omega) only [w64, wu64])
  repeat (first | refine AW.seq ?_ | refine AW.block ?_ | (refine AW.reg mix ?_; (simp -implicitDefEqProofs [f1]; try simp (disch := omega) only [w64, wu64])) | (refine need.of (by first | omega | kernel_rfl) ?_) | (refine AW.fin ?_; try (simp -implicitDefEqProofs [f1]; try simp (disch := omega) only [w64, wu64])))
  try exact hp.v
 ·with_reducible first | exact Tri.tt | exact Tri.any _) : q := (h f).1 ⟨hp⟩
theorem A10 {q f1 : Prop} {p : f1 → Prop} (f : f1) (hp : (p f)) (h : ∀ f1 : f1, (Hid (p f1) → q) ∧ Tri (p f1) := by
 intro f1
 constructor
 ·intro hp
  repeat (first | refine AW.seq ?_ | refine AW.block ?_ | (refine AW.reg mix ?_; (simp -implicitDefEqProofs [f1]; try simp (disch := omega) only [w64, wu64])) | (refine need.of (by first | omega | kernel_rfl) ?_) | (refine AW.fin ?_; try (simp -implicitDefEqProofs [f1]; try simp (disch := omega) only [w64, wu64])) | (refine AW.cond rfl ?_ (fun _ => ?_); focus (intro h; simp -implicitDefEqProofs [f1] at h; done)) | (refine AW.cond rfl (fun _ => ?_) ?_; rotate_left; focus (intro h; simp -implicitDefEqProofs [f1] at h; done)))
  try exact hp.v
 ·with_reducible first | exact Tri.tt | exact Tri.any _) : q := (h f).1 ⟨hp⟩
theorem A11 {q f1 c1 : Prop} {p : f1 → Prop} (f : f1) (k1 : c1) (hp : (p f)) (h : ∀ f1 : f1, c1 → (Hid (p f1) → q) ∧ Tri (p f1) := by
 intro f1 c1
 constructor
 ·intro hp
  repeat (first | refine AW.seq ?_ | refine AW.block ?_ | (refine AW.reg mix ?_; (simp -implicitDefEqProofs [f1]; try simp (disch := omega) only [w64, wu64])) | (refine need.of (by first | omega | kernel_rfl) ?_) | (refine AW.fin ?_; try (simp -implicitDefEqProofs [f1]; try simp (disch := omega) only [w64, wu64])) | (refine AW.cond rfl ?_ (fun _ => ?_); focus (intro h; simp -implicitDefEqProofs [f1] at h; done)) | (refine AW.cond rfl (fun _ => ?_) ?_; rotate_left; focus (intro h; simp -implicitDefEqProofs [f1] at h; done)) | (refine CallS.pu c1 ?_; try (simp -implicitDefEqProofs [f1]; try simp (disch := omega) only [w64, wu64])) | refine Exists.intro _ (And.intro c1 ?_))
  try exact hp.v
 ·with_reducible first | exact Tri.tt | exact Tri.any _) : q := (h f k1).1 ⟨hp⟩
theorem A12 {q f1 c1 c2 : Prop} {p : f1 → Prop} (f : f1) (k1 : c1) (k2 : c2) (hp : (p f)) (h : ∀ f1 : f1, c1 → c2 → (Hid (p f1) → q) ∧ Tri (p f1) := by
 intro f1 c1 c2
 constructor
 ·intro hp
  repeat (first | refine AW.seq ?_ | refine AW.block ?_ | (refine AW.reg mix ?_; (simp -implicitDefEqProofs [f1]; try simp (disch := omega) only [w64, wu64])) | (refine need.of (by first | omega | kernel_rfl) ?_) | (refine AW.fin ?_; try (simp -implicitDefEqProofs [f1]; try simp (disch := omega) only [w64, wu64])) | (refine AW.cond rfl ?_ (fun _ => ?_); focus (intro h; simp -implicitDefEqProofs [f1] at h; done)) | (refine AW.cond rfl (fun _ => ?_) ?_; rotate_left; focus (intro h; simp -implicitDefEqProofs [f1] at h; done)) | (refine CallS.pu c1 ?_; try (simp -implicitDefEqProofs [f1]; try simp (disch := omega) only [w64, wu64])) | refine Exists.intro _ (And.intro c1 ?_) | (refine CallS.pu c2 ?_; try (simp -implicitDefEqProofs [f1]; try simp (disch := omega) only [w64, wu64])) | refine Exists.intro _ (And.intro c2 ?_))
  try exact hp.v
 ·with_reducible first | exact Tri.tt | exact Tri.any _) : q := (h f k1 k2).1 ⟨hp⟩
theorem A13 {q f1 c1 c2 c3 : Prop} {p : f1 → Prop} (f : f1) (k1 : c1) (k2 : c2) (k3 : c3) (hp : (p f)) (h : ∀ f1 : f1, c1 → c2 → c3 → (Hid (p f1) → q) ∧ Tri (p f1) := by
 intro f1 c1 c2 c3
 constructor
 ·intro hp
  repeat (first | refine AW.seq ?_ | refine AW.block ?_ | (refine AW.reg mix ?_; (simp -implicitDefEqProofs [f1]; try simp (disch := omega) only [w64, wu64])) | (refine need.of (by first | omega | kernel_rfl) ?_) | (refine AW.fin ?_; try (simp -implicitDefEqProofs [f1]; try simp (disch := omega) only [w64, wu64])) | (refine AW.cond rfl ?_ (fun _ => ?_); focus (intro h; simp -implicitDefEqProofs [f1] at h; done)) | (refine AW.cond rfl (fun _ => ?_) ?_; rotate_left; focus (intro h; simp -implicitDefEqProofs [f1] at h; done)) | (refine CallS.pu c1 ?_; try (simp -implicitDefEqProofs [f1]; try simp (disch := omega) only [w64, wu64])) | refine Exists.intro _ (And.intro c1 ?_) | (refine CallS.pu c2 ?_; try (simp -implicitDefEqProofs [f1]; try simp (disch := omega) only [w64, wu64])) | refine Exists.intro _ (And.intro c2 ?_) | (refine CallS.pu c3 ?_; try (simp -implicitDefEqProofs [f1]; try simp (disch := omega) only [w64, wu64])) | refine Exists.intro _ (And.intro c3 ?_))
  try exact hp.v
 ·with_reducible first | exact Tri.tt | exact Tri.any _) : q := (h f k1 k2 k3).1 ⟨hp⟩
theorem A14 {q f1 c1 c2 c3 c4 : Prop} {p : f1 → Prop} (f : f1) (k1 : c1) (k2 : c2) (k3 : c3) (k4 : c4) (hp : (p f)) (h : ∀ f1 : f1, c1 → c2 → c3 → c4 → (Hid (p f1) → q) ∧ Tri (p f1) := by
 intro f1 c1 c2 c3 c4
 constructor
 ·intro hp
  repeat (first | refine AW.seq ?_ | refine AW.block ?_ | (refine AW.reg mix ?_; (simp -implicitDefEqProofs [f1]; try simp (disch := omega) only [w64, wu64])) | (refine need.of (by first | omega | kernel_rfl) ?_) | (refine AW.fin ?_; try (simp -implicitDefEqProofs [f1]; try simp (disch := omega) only [w64, wu64])) | (refine AW.cond rfl ?_ (fun _ => ?_); focus (intro h; simp -implicitDefEqProofs [f1] at h; done)) | (refine AW.cond rfl (fun _ => ?_) ?_; rotate_left; focus (intro h; simp -implicitDefEqProofs [f1] at h; done)) | (refine CallS.pu c1 ?_; try (simp -implicitDefEqProofs [f1]; try simp (disch := omega) only [w64, wu64])) | refine Exists.intro _ (And.intro c1 ?_) | (refine CallS.pu c2 ?_; try (simp -implicitDefEqProofs [f1]; try simp (disch := omega) only [w64, wu64])) | refine Exists.intro _ (And.intro c2 ?_) | (refine CallS.pu c3 ?_; try (simp -implicitDefEqProofs [f1]; try simp (disch := omega) only [w64, wu64])) | refine Exists.intro _ (And.intro c3 ?_) | (refine CallS.pu c4 ?_; try (simp -implicitDefEqProofs [f1]; try simp (disch := omega) only [w64, wu64])) | refine Exists.intro _ (And.intro c4 ?_))
  try exact hp.v
 ·with_reducible first | exact Tri.tt | exact Tri.any _) : q := (h f k1 k2 k3 k4).1 ⟨hp⟩
theorem G0B {q p : Prop} (hp : p) (h : (Hid p → q) ∧ Tri p := by
 constructor
 ·intro hp
  repeat (first | refine AW.seq ?_ | refine AW.block ?_ | (refine AW.reg mix ?_; (simp -implicitDefEqProofs [-Bool.exists_bool]; try simp (disch := omega) only [w64, wu64])) | (refine need.of (by first | omega | kernel_rfl) ?_) | (refine AW.fin ?_; try (simp -implicitDefEqProofs [-Bool.exists_bool]; try simp (disch := omega) only [w64, wu64])))
  try exact hp.v
 ·with_reducible first | exact Tri.tt | exact Tri.any _) : q := (h).1 ⟨hp⟩
theorem R0B {q p : Prop} (hp : p) (h : (Hid p → q) ∧ Tri p := by
 constructor
 ·intro hp
  try (simp -implicitDefEqProofs [-Bool.exists_bool]; try simp (disch := omega) only [w64, wu64])
  repeat (first | refine AW.seq ?_ | refine AW.block ?_ | (refine AW.reg mix ?_; (simp -implicitDefEqProofs [-Bool.exists_bool]; try simp (disch := omega) only [w64, wu64])) | (refine need.of (by first | omega | kernel_rfl) ?_) | (refine AW.fin ?_; try (simp -implicitDefEqProofs [-Bool.exists_bool]; try simp (disch := omega) only [w64, wu64])))
  try exact hp.v
 ·with_reducible first | exact Tri.tt | exact Tri.any _) : q := (h).1 ⟨hp⟩
theorem A06B {q p c1 c2 c3 c4 c5 c6 : Prop} (k1 : c1) (k2 : c2) (k3 : c3) (k4 : c4) (k5 : c5) (k6 : c6) (hp : p) (h : c1 → c2 → c3 → c4 → c5 → c6 → (Hid p → q) ∧ Tri p := by
 intro c1 c2 c3 c4 c5 c6
 constructor
 ·intro hp
  repeat (first | refine AW.seq ?_ | refine AW.block ?_ | (refine AW.reg mix ?_; (simp -implicitDefEqProofs [-Bool.exists_bool]; try simp (disch := omega) only [w64, wu64])) | (refine need.of (by first | omega | kernel_rfl) ?_) | (refine AW.fin ?_; try (simp -implicitDefEqProofs [-Bool.exists_bool]; try simp (disch := omega) only [w64, wu64])) | (refine AW.cond rfl ?_ (fun _ => ?_); focus (intro h; simp -implicitDefEqProofs [-Bool.exists_bool] at h; done)) | (refine AW.cond rfl (fun _ => ?_) ?_; rotate_left; focus (intro h; simp -implicitDefEqProofs [-Bool.exists_bool] at h; done)) | (refine CallS.pu c1 ?_; try (simp -implicitDefEqProofs [-Bool.exists_bool]; try simp (disch := omega) only [w64, wu64])) | refine Exists.intro _ (And.intro c1 ?_) | (refine CallS.pu c2 ?_; try (simp -implicitDefEqProofs [-Bool.exists_bool]; try simp (disch := omega) only [w64, wu64])) | refine Exists.intro _ (And.intro c2 ?_) | (refine CallS.pu c3 ?_; try (simp -implicitDefEqProofs [-Bool.exists_bool]; try simp (disch := omega) only [w64, wu64])) | refine Exists.intro _ (And.intro c3 ?_) | (refine CallS.pu c4 ?_; try (simp -implicitDefEqProofs [-Bool.exists_bool]; try simp (disch := omega) only [w64, wu64])) | refine Exists.intro _ (And.intro c4 ?_) | (refine CallS.pu c5 ?_; try (simp -implicitDefEqProofs [-Bool.exists_bool]; try simp (disch := omega) only [w64, wu64])) | refine Exists.intro _ (And.intro c5 ?_) | (refine CallS.pu c6 ?_; try (simp -implicitDefEqProofs [-Bool.exists_bool]; try simp (disch := omega) only [w64, wu64])) | refine Exists.intro _ (And.intro c6 ?_))
  try exact hp.v
 ·with_reducible first | exact Tri.tt | exact Tri.any _) : q := (h k1 k2 k3 k4 k5 k6).1 ⟨hp⟩
theorem G1B {q f1 : Prop} {p : f1 → Prop} (f : f1) (hp : (p f)) (h : ∀ f1 : f1, (Hid (p f1) → q) ∧ Tri (p f1) := by
 intro f1
 constructor
 ·intro hp
  repeat (first | refine AW.seq ?_ | refine AW.block ?_ | (refine AW.reg mix ?_; (simp -implicitDefEqProofs [-Bool.exists_bool, f1]; try simp (disch := omega) only [w64, wu64])) | (refine need.of (by first | omega | kernel_rfl) ?_) | (refine AW.fin ?_; try (simp -implicitDefEqProofs [-Bool.exists_bool, f1]; try simp (disch := omega) only [w64, wu64])))
  try exact hp.v
 ·with_reducible first | exact Tri.tt | exact Tri.any _) : q := (h f).1 ⟨hp⟩
end
section
open Go.Proofs.YtjbcbbfhcbnncaaGreatDoor.Am
theorem mix : Tryz.prog.follows .mixedOrders = true := by kernel_rfl
@[simp] def om_ (d s : Nat) (l : List Nat) : O := ⟨some d, .mv (.t s), none, l⟩
@[simp] def oo_ (d : Nat) (a : A) (l : List Nat) : O := ⟨some d, a, none, l⟩
@[simp] def og_ (d : Nat) (a : A) (s : Nat) (b : Bool) (l : List Nat) : O := ⟨some d, a, some (s, b), l⟩
@[simp] def on_ (a : A) (l : List Nat) : O := ⟨none, a, none, l⟩

abbrev o_6j : FuncId := 5
def o_6k : C := (.seq (.reg false [oo_ 2 (.box 59 (.t 0)) [],oo_ 4 (.mv (.d (.bool false))) []]) (.seq (.seq (.reg false [oo_ 15 (.call 32 []) [],oo_ 16 (.un .not (.t 15)) [0]]) (.cond (.t 16) (.seq (.reg false [oo_ 4 (.mv (.d (.bool
 false))) []]) .ret) .skip)) (.seq (.reg false [oo_ 17 (.load true 3 (.t 2)) [],oo_ 18 (.call 33 [(.t 17)]) [0],on_ (.store 3 (.t 2) (.t 18)) [1,1,0,1]]) (.seq (.reg false [oo_ 19 (.fa 2 (.t 2)) [],oo_ 20 (.load false 1
 (.t 19)) [0],oo_ 21 (.bin .shl (.d (.int .i64 1)) (.t 20)) [1],oo_ 22 (.bin .sub (.t 21) (.d (.int .i64 1))) [2],om_ 5 22 [3,0,1,2,3]]) (.seq (.reg false [om_ 23 1 [],oo_ 24 (.bin .and (.t 23) (.d (.int .i64 15)))
 [0],om_ 25 5 [],oo_ 26 (.bin .add (.t 25) (.d (.int .i64 1))) [2],oo_ 27 (.bin .rem (.t 24) (.t 26)) [1,3],om_ 1 27 [4,0,1,2,3,4]]) (.seq (.reg false [oo_ 28 (.load true 3 (.t 2)) [],oo_ 29 (.call 23 [(.t 28)]) [0],oo_
 6 (.new 62 [(.int .i64 0),(.int .i64 0),(.int .i64 0)]) [],on_ (.store 3 (.t 6) (.t 29)) [2,1,1,0,1,2]]) (.seq (.reg false [oo_ 31 (.load true 3 (.t 6)) [],oo_ 32 (.build [(.int .i64 0),(.int .i64 0),(.bool false)] [])
 [],om_ 33 1 [],oo_ 34 (.call 26 [(.t 31),(.t 32),(.t 33)]) [0,1,2],om_ 30 34 [3],oo_ 35 (.ext (.t 30) 0) [4],oo_ 36 (.ext (.t 30) 1) [4],om_ 7 35 [5,3,0,1,2,3,4,5],om_ 8 36 [6,7,0,1,2,3,4,5,6,7]]) (.seq (.reg false [oo_
 38 (.load true 3 (.t 6)) [],om_ 39 7 [],oo_ 40 (.call 34 [(.t 38),(.t 39)]) [0,1],om_ 37 40 [2],oo_ 41 (.ext (.t 37) 0) [3],oo_ 42 (.ext (.t 37) 1) [3],oo_ 9 (.new 80 [.nilsl,(.bool false),.nilsl,.nilsl,(.bool
 false),.nilsl,.nilsl,(.bool false),.nilsl]) [],on_ (.store 9 (.t 9) (.t 41)) [6,4,2,0,1,2,3,4,6],om_ 10 42 [5,7,0,1,2,3,4,5,6,7]]) (.seq (.seq (.reg true [om_ 43 8 [],oo_ 44 (.bin .neq (.t 43) (.d (.int .i64 0)))
 [0],om_ 45 44 [1],og_ 46 (.mv (.t 10)) 45 false [2],og_ 47 (.bin .neq (.t 46) (.d (.int .i64 0))) 45 false [3,2],oo_ 48 (.pick (.t 45) (.d (.bool true)) (.t 47)) [2,4],om_ 49 48 [5,2],og_ 50 (.fa 3 (.t 9)) 49 false
 [6],og_ 51 (.load true 3 (.t 50)) 49 false [7,6],og_ 52 (.call 35 [(.d (.int .i64 0))]) 49 false [6,6],og_ 53 (.call 31 [(.t 51),(.t 52)]) 49 false [8,9,9,6],og_ 54 (.bin .lss (.t 53) (.d (.int .i64 0))) 49 false
 [10,6],oo_ 55 (.pick (.t 49) (.d (.bool true)) (.t 54)) [6,11]]) (.cond (.t 55) (.seq (.reg false [oo_ 4 (.mv (.d (.bool false))) []]) .ret) .skip)) (.seq (.seq (.reg false [oo_ 56 (.fa 0 (.t 2)) [],oo_ 57 (.load false
 1 (.t 56)) [0]]) (.block 0 (.seq (.reg false [oo_ 59 (.bin .eql (.t 57) (.d (.int .i64 1))) [],om_ 58 59 [0]]) (.cond (.t 58) (.seq (.reg false [om_ 61 1 [],om_ 62 1 [],oo_ 63 (.bin .sub (.t 62) (.d (.int .i64 1)))
 [1],oo_ 64 (.bin .mul (.t 61) (.t 63)) [0,2],oo_ 65 (.fa 1 (.t 2)) [],oo_ 66 (.load false 1 (.t 65)) [4],oo_ 67 (.bin .mul (.d (.int .i64 2)) (.t 66)) [5],oo_ 68 (.call 20 [(.t 64),(.t 67)]) [3,6],om_ 60 68 [7],oo_ 69
 (.ext (.t 60) 0) [8],oo_ 70 (.ext (.t 60) 1) [8],oo_ 11 (.new 47 [.nilsl,(.bool false),.nilsl]) [],on_ (.store 3 (.t 11) (.t 69)) [11,9,7,0,1,2,3,4,5,6,7,8,9,11],om_ 12 70 [10,12,0,1,2,3,4,5,6,7,8,9,10,11,12]]) (.seq
 (.reg false [oo_ 71 (.fa 3 (.t 9)) [],oo_ 72 (.load true 3 (.t 71)) [0],oo_ 73 (.load true 3 (.t 11)) [],oo_ 74 (.call 31 [(.t 72),(.t 73)]) [1,2],oo_ 75 (.bin .eql (.t 74) (.d (.int .i64 0))) [3],om_ 4 75
 [4,3,0,1,2,3,4]]) .ret)) (.seq (.reg false [oo_ 77 (.bin .eql (.t 57) (.d (.int .i64 2))) [],om_ 76 77 [0]]) (.cond (.t 76) (.seq (.reg false [om_ 79 1 [],om_ 80 1 [],oo_ 81 (.bin .sub (.t 80) (.d (.int .i64 1)))
 [1],oo_ 82 (.bin .mul (.t 79) (.t 81)) [0,2],oo_ 83 (.fa 1 (.t 2)) [],oo_ 84 (.load false 1 (.t 83)) [4],oo_ 85 (.bin .shl (.d (.int .i64 2)) (.t 84)) [5],oo_ 86 (.call 20 [(.t 82),(.t 85)]) [3,6],om_ 78 86 [7],oo_ 87
 (.ext (.t 78) 0) [8],oo_ 88 (.ext (.t 78) 1) [8],oo_ 13 (.new 47 [.nilsl,(.bool false),.nilsl]) [],on_ (.store 3 (.t 13) (.t 87)) [11,9,7,0,1,2,3,4,5,6,7,8,9,11],om_ 14 88 [10,12,0,1,2,3,4,5,6,7,8,9,10,11,12]]) (.seq
 (.reg false [oo_ 89 (.fa 3 (.t 9)) [],oo_ 90 (.load true 3 (.t 89)) [0],oo_ 91 (.load true 3 (.t 13)) [],oo_ 92 (.call 31 [(.t 90),(.t 91)]) [1,2],oo_ 93 (.bin .leq (.t 92) (.d (.int .i64 0))) [3],om_ 4 93
 [4,3,0,1,2,3,4]]) .ret)) .skip)))))) (.seq (.reg true [oo_ 94 (.fa 0 (.t 9)) [],oo_ 95 (.load true 3 (.t 94)) [0],om_ 96 1 [],oo_ 97 (.call 35 [(.t 96)]) [2],oo_ 98 (.call 31 [(.t 95),(.t 97)]) [1,3,3],oo_ 99 (.bin .eql
 (.t 98) (.d (.int .i64 0))) [4],om_ 4 99 [5,4,0,1,2,3,4,5]]) .ret)))))))))))
theorem o_6l : fnOf Tryz.prog o_6j = some (o_6k, [.t 4], 100, false) := by kernel_rfl

abbrev o_6m : FuncId := 6
def o_6n : C := (.seq (.reg false [oo_ 3 (.box 59 (.t 0)) [],oo_ 4 (.box 61 (.t 1)) [],oo_ 5 (.box 85 (.t 2)) [],oo_ 6 (.mv (.d (.bool false))) []]) (.seq (.seq (.reg false [oo_ 21 (.call 32 []) [],oo_ 22 (.un .not (.t 21)) [0]])
 (.cond (.t 22) (.seq (.reg false [oo_ 6 (.mv (.d (.bool false))) []]) .ret) .skip)) (.seq (.reg false [oo_ 24 (.load true 3 (.t 3)) [],oo_ 25 (.load true 3 (.t 4)) [],oo_ 26 (.call 36 [(.t 24),(.t 25)]) [0,1],om_ 23 26
 [2],oo_ 27 (.ext (.t 23) 0) [3],oo_ 28 (.ext (.t 23) 1) [3],on_ (.store 3 (.t 3) (.t 27)) [4,2,0,1,2,3,4],on_ (.store 3 (.t 4) (.t 28)) [5,6,0,1,2,3,4,5,6]]) (.seq (.reg false [oo_ 29 (.load true 3 (.t 3)) [],oo_ 30
 (.call 23 [(.t 29)]) [0],oo_ 7 (.new 62 [(.int .i64 0),(.int .i64 0),(.int .i64 0)]) [],on_ (.store 3 (.t 7) (.t 30)) [2,1,1,0,1,2]]) (.seq (.reg true [oo_ 32 (.load true 3 (.t 7)) [],oo_ 33 (.load true 3 (.t 4)) [],oo_
 34 (.call 24 [(.t 33)]) [1],oo_ 35 (.ixa 3 1 (.t 5) (.d (.int .i64 0))) [],oo_ 36 (.load false 1 (.t 35)) [3],oo_ 37 (.bin .and (.t 36) (.d (.int .i64 7))) [4],oo_ 38 (.call 26 [(.t 32),(.t 34),(.t 37)]) [0,2,5,2],om_
 31 38 [6],oo_ 39 (.ext (.t 31) 0) [7],oo_ 40 (.ext (.t 31) 1) [7],om_ 8 39 [8,6,0,1,2,3,4,5,6,7,8],om_ 9 40 [9,10,0,1,2,3,4,5,6,7,8,9,10]]) (.seq (.reg false [oo_ 41 (.ixa 3 1 (.t 5) (.d (.int .i64 1))) [],oo_ 42 (.load
 false 1 (.t 41)) [0],oo_ 43 (.mm false [(.t 42),(.d (.int .i64 1000))]) [1],oo_ 44 (.mm true [(.d (.int .i64 (-5))),(.t 43)]) [2],om_ 10 44 [3,0,1,2,3]]) (.seq (.reg false [om_ 45 10 [],oo_ 46 (.ixa 3 1 (.t 5) (.d (.int
 .i64 2))) [],oo_ 47 (.load false 1 (.t 46)) [1],oo_ 48 (.mm false [(.t 47),(.d (.int .i64 1000))]) [2],oo_ 49 (.mm true [(.d (.int .i64 0)),(.t 48)]) [3],oo_ 50 (.bin .add (.t 45) (.t 49)) [0,4],om_ 11 50
 [5,0,1,2,3,4,5]]) (.seq (.reg true [oo_ 52 (.load true 3 (.t 7)) [],om_ 53 8 [],om_ 54 10 [],oo_ 55 (.call 35 [(.t 54)]) [2],oo_ 56 (.call 37 [(.t 52),(.t 53),(.t 55)]) [0,1,3,3],om_ 51 56 [4],oo_ 57 (.ext (.t 51) 0)
 [5],oo_ 58 (.ext (.t 51) 1) [5],oo_ 12 (.new 47 [.nilsl,(.bool false),.nilsl]) [],on_ (.store 3 (.t 12) (.t 57)) [8,6,4,0,1,2,3,4,5,6,8],om_ 13 58 [7,9,0,1,2,3,4,5,6,7,8,9]]) (.seq (.reg true [oo_ 60 (.load true 3 (.t
 7)) [],om_ 61 8 [],om_ 62 11 [],oo_ 63 (.call 35 [(.t 62)]) [2],oo_ 64 (.call 37 [(.t 60),(.t 61),(.t 63)]) [0,1,3,3],om_ 59 64 [4],oo_ 65 (.ext (.t 59) 0) [5],oo_ 66 (.ext (.t 59) 1) [5],oo_ 14 (.new 47 [.nilsl,(.bool
 false),.nilsl]) [],on_ (.store 3 (.t 14) (.t 65)) [8,6,4,0,1,2,3,4,5,6,8],om_ 15 66 [7,9,0,1,2,3,4,5,6,7,8,9]]) (.seq (.reg true [oo_ 68 (.load true 3 (.t 7)) [],om_ 69 8 [],oo_ 70 (.call 35 [(.d (.int .i64 0))]) [],oo_
 71 (.call 37 [(.t 68),(.t 69),(.t 70)]) [0,1,2,2],om_ 67 71 [3],oo_ 72 (.ext (.t 67) 0) [4],oo_ 73 (.ext (.t 67) 1) [4],oo_ 16 (.new 47 [.nilsl,(.bool false),.nilsl]) [],on_ (.store 3 (.t 16) (.t 72))
 [7,5,3,0,1,2,3,4,5,7],om_ 17 73 [6,8,0,1,2,3,4,5,6,7,8]]) (.seq (.reg false [oo_ 75 (.load true 3 (.t 7)) [],om_ 76 8 [],oo_ 77 (.call 34 [(.t 75),(.t 76)]) [0,1],om_ 74 77 [2],oo_ 78 (.ext (.t 74) 0) [3],oo_ 79 (.ext
 (.t 74) 1) [3],oo_ 18 (.new 80 [.nilsl,(.bool false),.nilsl,.nilsl,(.bool false),.nilsl,.nilsl,(.bool false),.nilsl]) [],on_ (.store 9 (.t 18) (.t 78)) [6,4,2,0,1,2,3,4,6],om_ 19 79 [5,7,0,1,2,3,4,5,6,7]]) (.seq (.seq
 (.reg true [om_ 80 9 [],oo_ 81 (.bin .neq (.t 80) (.d (.int .i64 0))) [0],om_ 82 81 [1],og_ 83 (.mv (.t 13)) 82 false [2],og_ 84 (.bin .neq (.t 83) (.d (.int .i64 0))) 82 false [3,2],oo_ 85 (.pick (.t 82) (.d (.bool
 true)) (.t 84)) [2,4],om_ 86 85 [5,2],og_ 87 (.mv (.t 15)) 86 false [6],og_ 88 (.bin .neq (.t 87) (.d (.int .i64 0))) 86 false [7,6],oo_ 89 (.pick (.t 86) (.d (.bool true)) (.t 88)) [6,8],om_ 90 89 [9,6],og_ 91 (.mv (.t
 17)) 90 false [10],og_ 92 (.bin .neq (.t 91) (.d (.int .i64 0))) 90 false [11,10],oo_ 93 (.pick (.t 90) (.d (.bool true)) (.t 92)) [10,12],om_ 94 93 [13,10],og_ 95 (.mv (.t 19)) 94 false [14],og_ 96 (.bin .neq (.t 95)
 (.d (.int .i64 0))) 94 false [15,14],oo_ 97 (.pick (.t 94) (.d (.bool true)) (.t 96)) [14,16],om_ 98 97 [17,14],og_ 99 (.load true 3 (.t 14)) 98 false [18],og_ 100 (.load true 3 (.t 12)) 98 false [18],og_ 101 (.call 31
 [(.t 99),(.t 100)]) 98 false [19,20,18,18],og_ 102 (.bin .gtr (.t 101) (.d (.int .i64 0))) 98 false [21,18],oo_ 103 (.pick (.t 98) (.d (.bool true)) (.t 102)) [18,22],om_ 104 103 [23,21],og_ 105 (.load true 3 (.t 14))
 104 false [24],og_ 106 (.call 35 [(.d (.int .i64 0))]) 104 false [24,24],og_ 107 (.call 31 [(.t 105),(.t 106)]) 104 false [25,26,26,24],og_ 108 (.bin .lss (.t 107) (.d (.int .i64 0))) 104 false [27,24],oo_ 109 (.pick
 (.t 104) (.d (.bool true)) (.t 108)) [24,28],om_ 110 109 [29,27],og_ 111 (.load true 3 (.t 16)) 110 false [30],og_ 112 (.call 38 [(.t 111)]) 110 false [31,30,30],⟨some 113,.bin .neq (.t 112) (.d (.str ⟨#[49]⟩)),some
 (110,false),[32,30]⟩,oo_ 114 (.pick (.t 110) (.d (.bool true)) (.t 113)) [30,33]]) (.cond (.t 114) (.seq (.reg false [oo_ 6 (.mv (.d (.bool false))) []]) .ret) .skip)) (.seq (.seq (.reg true [om_ 115 11 [],oo_ 116 (.bin
 .gtr (.t 115) (.d (.int .i64 0))) [0],om_ 117 116 [1],og_ 118 (.load true 3 (.t 14)) 117 true [2],og_ 119 (.mv (.t 11)) 117 true [2],og_ 120 (.call 35 [(.t 119)]) 117 true [4,2,2],og_ 121 (.call 39 [(.t 118),(.t 120)])
 117 true [3,5,5,2],og_ 122 (.fa 0 (.t 18)) 117 true [2],og_ 123 (.load true 3 (.t 122)) 117 true [7,2],og_ 124 (.call 31 [(.t 121),(.t 123)]) 117 true [6,8,6,2],og_ 125 (.bin .gtr (.t 124) (.d (.int .i64 0))) 117 true
 [9,2],oo_ 126 (.pick (.t 117) (.t 125) (.d (.bool false))) [2,10]]) (.cond (.t 126) (.seq (.reg false [oo_ 6 (.mv (.d (.bool false))) []]) .ret) .skip)) (.seq (.reg true [om_ 127 11 [],oo_ 128 (.call 35 [(.t 127)])
 [0],oo_ 129 (.fa 0 (.t 18)) [],oo_ 130 (.load true 3 (.t 129)) [2],oo_ 131 (.call 40 [(.t 128),(.t 130)]) [1,3,1],oo_ 20 (.new 47 [.nilsl,(.bool false),.nilsl]) [],on_ (.store 3 (.t 20) (.t 131)) [5,4,4,0,1,2,3,4,5]])
 (.seq (.reg true [oo_ 132 (.load true 3 (.t 20)) [],oo_ 133 (.call 35 [(.d (.int .i64 0))]) [],oo_ 134 (.call 31 [(.t 132),(.t 133)]) [0,1,1],oo_ 135 (.bin .leq (.t 134) (.d (.int .i64 0))) [2],om_ 136 135 [3,2],og_ 137
 (.load true 3 (.t 14)) 136 false [4],og_ 138 (.load true 3 (.t 20)) 136 false [4],og_ 139 (.load true 3 (.t 20)) 136 false [4],og_ 140 (.call 39 [(.t 138),(.t 139)]) 136 false [6,7,4,4],og_ 141 (.call 39 [(.t 137),(.t
 140)]) 136 false [5,8,8,4],og_ 142 (.fa 3 (.t 18)) 136 false [4],og_ 143 (.load true 3 (.t 142)) 136 false [10,4],og_ 144 (.call 31 [(.t 141),(.t 143)]) 136 false [9,11,9,4],og_ 145 (.bin .leq (.t 144) (.d (.int .i64
 0))) 136 false [12,4],oo_ 146 (.pick (.t 136) (.d (.bool true)) (.t 145)) [4,13],om_ 6 146 [14,12,0,1,2,3,4,5,6,7,8,9,10,11,12,13,14]]) .ret)))))))))))))))
theorem o_6o : fnOf Tryz.prog o_6m = some (o_6n, [.t 6], 147, false) := by kernel_rfl

abbrev o_6p : FuncId := 20
def o_6q : C := (.seq (.reg false [oo_ 4 (.new 47 [.nilsl,(.bool false),.nilsl]) [],oo_ 5 (.mv (.d (.int .i64 0))) []]) (.seq (.reg false [om_ 6 0 [],oo_ 7 (.call 67 [(.t 6)]) [0],om_ 8 1 [],oo_ 9 (.call 67 [(.t 8)]) [2,1],oo_ 10
 (.call 66 [(.t 7),(.t 9)]) [1,3,3],oo_ 11 (.ext (.t 10) 0) [4],oo_ 12 (.ext (.t 10) 1) [4],on_ (.store 3 (.t 4) (.t 11)) [5,4,0,1,2,3,4,5,6],om_ 5 12 [6,7,0,1,2,3,4,5,6,7]]) .ret))
theorem o_6r : fnOf Tryz.prog o_6p = some (o_6q, [.cell 4 true 3, .t 5], 13, false) := by kernel_rfl

abbrev o_6s : FuncId := 23
def o_6t : C := (.seq (.reg false [oo_ 1 (.box 59 (.t 0)) [],oo_ 2 (.new 62 [(.int .i64 0),(.int .i64 0),(.int .i64 0)]) []]) (.seq (.reg false [oo_ 3 (.fa 0 (.t 1)) [],oo_ 4 (.load false 1 (.t 3)) [0],oo_ 5 (.fa 1 (.t 1)) [],oo_ 6
 (.load false 1 (.t 5)) [2],oo_ 7 (.fa 2 (.t 1)) [],oo_ 8 (.load false 1 (.t 7)) [4],oo_ 9 (.build [(.int .i64 0),(.int .i64 0),(.int .i64 0)] [(0,1,(.t 4)),(1,1,(.t 6)),(2,1,(.t 8))]) [1,3,5],on_ (.store 3 (.t 2) (.t
 9)) [6,0,1,2,3,4,5,6]]) .ret))
theorem o_6u : fnOf Tryz.prog o_6s = some (o_6t, [.cell 2 true 3], 10, false) := by kernel_rfl

abbrev o_6v : FuncId := 24
def o_6w : C := (.seq (.reg false [oo_ 1 (.box 61 (.t 0)) [],oo_ 2 (.new 64 [(.int .i64 0),(.int .i64 0),(.bool false)]) []]) (.seq (.reg false [oo_ 3 (.fa 0 (.t 1)) [],oo_ 4 (.load false 1 (.t 3)) [0],oo_ 5 (.fa 1 (.t 1)) [],oo_ 6
 (.load false 1 (.t 5)) [2],oo_ 7 (.fa 2 (.t 1)) [],oo_ 8 (.load false 1 (.t 7)) [4],oo_ 9 (.build [(.int .i64 0),(.int .i64 0),(.bool false)] [(0,1,(.t 4)),(1,1,(.t 6)),(2,1,(.t 8))]) [1,3,5],on_ (.store 3 (.t 2) (.t
 9)) [6,0,1,2,3,4,5,6]]) .ret))
theorem o_6x : fnOf Tryz.prog o_6v = some (o_6w, [.cell 2 true 3], 10, false) := by kernel_rfl

abbrev o_6y : FuncId := 26
def o_6z : C := (.seq (.reg false [oo_ 3 (.box 62 (.t 0)) [],oo_ 4 (.box 64 (.t 1)) [],oo_ 6 (.mv (.d .nilsl)) [],oo_ 7 (.mv (.d (.int .i64 0))) [2]]) (.seq (.seq (.reg false [oo_ 10 (.load true 3 (.t 3)) [],oo_ 11 (.load true 3 (.t
 4)) [],oo_ 12 (.bsl 64 3 1 [(.int .i64 0),(.int .i64 0),(.bool false)] [(0,3,(.t 11))]) [1],oo_ 13 (.call 72 [(.t 10),(.t 12)]) [0,2],om_ 8 13 [3,3,0,1,2,3]]) (.block 0 (.seq (.reg false [om_ 15 8 [],oo_ 16 (.bin .neq
 (.t 15) (.d (.int .i64 0))) [0],om_ 14 16 [1]]) (.cond (.t 14) (.seq (.reg false [om_ 17 8 [],oo_ 6 (.mv (.d .nilsl)) [],om_ 7 17 [0,1,0,1]]) .ret) (.seq (.reg false [om_ 19 2 [],oo_ 20 (.bin .lss (.t 19) (.d (.int .i64
 0))) [0],om_ 21 20 [1],og_ 22 (.mv (.t 2)) 21 false [2],og_ 23 (.bin .gtr (.t 22) (.d (.int .i64 64))) 21 false [3,2],oo_ 24 (.pick (.t 21) (.d (.bool true)) (.t 23)) [2,4],om_ 18 24 [5,2]]) (.cond (.t 18) (.seq (.reg
 false [oo_ 6 (.mv (.d .nilsl)) [],oo_ 7 (.mv (.d (.int .i64 2))) [0,0]]) .ret) (.seq (.reg false [om_ 26 2 [],oo_ 27 (.bin .add (.t 26) (.d (.int .i64 1))) [0],oo_ 28 (.load true 3 (.t 3)) [],oo_ 29 (.call 73 [(.t 28)])
 [2],oo_ 30 (.bin .mul (.t 27) (.t 29)) [1,3],oo_ 31 (.bin .gtr (.t 30) (.d (.int .i64 512))) [4],om_ 25 31 [5,3]]) (.cond (.t 25) (.seq (.reg false [oo_ 6 (.mv (.d .nilsl)) [],oo_ 7 (.mv (.d (.int .i64 12))) [0,0]])
 .ret) .skip)))))))) (.seq (.reg false [oo_ 32 (.load true 3 (.t 4)) [],oo_ 33 (.call 74 [(.t 32)]) [0],om_ 9 33 [1,1,0,1]]) (.seq (.seq (.reg false [om_ 34 2 [],oo_ 35 (.mv (.d (.int .i64 0))) []]) (.block 1 (.loop
 (.seq (.reg false [oo_ 36 (.bin .lss (.t 35) (.t 34)) []]) (.seq (.cond (.t 36) .skip (.exit 1)) (.seq (.block 2 (.reg false [om_ 37 9 [],oo_ 38 (.mkf (.func 76) [(.t 3)]) [],oo_ 39 (.call 75 [(.t 37),(.t 38)])
 [0,1],om_ 9 39 [2,2,0,1,2]])) (.reg false [oo_ 40 (.bin .add (.t 35) (.d (.int .i64 1))) [],om_ 35 40 [0]]))))))) (.seq (.reg false [om_ 41 9 [],oo_ 42 (.call 71 [(.t 41)]) [0],om_ 6 42 [1,1,0,1],oo_ 7 (.mv (.d (.int
 .i64 0))) [2,0,1,2]]) .ret)))))
theorem o_70 : fnOf Tryz.prog o_6y = some (o_6z, [.t 6, .t 7], 43, false) := by kernel_rfl

abbrev o_71 : FuncId := 31
def o_72 : C := (.seq (.reg false [oo_ 2 (.box 47 (.t 0)) [],oo_ 3 (.box 47 (.t 1)) [],oo_ 4 (.mv (.d (.int .i64 0))) []]) (.seq (.reg true [oo_ 5 (.fa 0 (.t 2)) [],oo_ 6 (.load true 2 (.t 5)) [0],oo_ 7 (.load true 3 (.t 3)) [],oo_ 8
 (.call 84 [(.t 7)]) [2],oo_ 9 (.call 83 [(.t 6),(.t 8)]) [1,3,3],oo_ 10 (.fa 0 (.t 3)) [],oo_ 11 (.load true 2 (.t 10)) [5],oo_ 12 (.load true 3 (.t 2)) [],oo_ 13 (.call 84 [(.t 12)]) [7,4],oo_ 14 (.call 83 [(.t 11),(.t
 13)]) [6,8,8],oo_ 15 (.call 82 [(.t 9),(.t 14)]) [4,9,9],om_ 4 15 [10,10,0,1,2,3,4,5,6,7,8,9,10]]) .ret))
theorem o_73 : fnOf Tryz.prog o_71 = some (o_72, [.t 4], 16, false) := by kernel_rfl

abbrev o_74 : FuncId := 32
def o_75 : C := (.seq (.reg false [oo_ 0 (.mv (.d (.bool false))) []]) (.seq (.reg false [oo_ 6 (.build [(.int .i64 0),(.int .i64 0),(.int .i64 0)] [(0,1,(.d (.int .i64 1))),(1,1,(.d (.int .i64 1))),(2,1,(.d (.int .i64 2)))]) [],oo_ 1
 (.new 62 [(.int .i64 0),(.int .i64 0),(.int .i64 0)]) [],on_ (.store 3 (.t 1) (.t 6)) [1,0,0,1]]) (.seq (.reg false [oo_ 8 (.load true 3 (.t 1)) [],oo_ 9 (.build [(.int .i64 0),(.int .i64 0),(.bool false)] []) [],oo_ 10
 (.call 26 [(.t 8),(.t 9),(.d (.int .i64 2))]) [0,1],om_ 7 10 [2],oo_ 11 (.ext (.t 7) 0) [3],oo_ 12 (.ext (.t 7) 1) [3],om_ 2 11 [4,2,0,1,2,3,4],om_ 3 12 [5,6,0,1,2,3,4,5,6]]) (.seq (.reg false [oo_ 14 (.load true 3 (.t
 1)) [],om_ 15 2 [],oo_ 16 (.call 34 [(.t 14),(.t 15)]) [0,1],om_ 13 16 [2],oo_ 17 (.ext (.t 13) 0) [3],oo_ 18 (.ext (.t 13) 1) [3],oo_ 4 (.new 80 [.nilsl,(.bool false),.nilsl,.nilsl,(.bool false),.nilsl,.nilsl,(.bool
 false),.nilsl]) [],on_ (.store 9 (.t 4) (.t 17)) [6,4,2,0,1,2,3,4,6],om_ 5 18 [5,7,0,1,2,3,4,5,6,7]]) (.seq (.reg false [om_ 19 3 [],oo_ 20 (.bin .eql (.t 19) (.d (.int .i64 0))) [0],om_ 21 20 [1],og_ 22 (.mv (.t 5)) 21
 true [2],og_ 23 (.bin .eql (.t 22) (.d (.int .i64 0))) 21 true [3,2],oo_ 24 (.pick (.t 21) (.t 23) (.d (.bool false))) [2,4],om_ 25 24 [5,2],og_ 26 (.fa 0 (.t 4)) 25 true [6],og_ 27 (.load true 3 (.t 26)) 25 true
 [7,6],og_ 28 (.call 38 [(.t 27)]) 25 true [8,6,6],⟨some 29,.bin .eql (.t 28) (.d (.str ⟨#[50]⟩)),some (25,true),[9,6]⟩,oo_ 30 (.pick (.t 25) (.t 29) (.d (.bool false))) [6,10],om_ 31 30 [11,9],og_ 32 (.fa 3 (.t 4)) 31
 true [12],og_ 33 (.load true 3 (.t 32)) 31 true [13,12],og_ 34 (.call 38 [(.t 33)]) 31 true [14,12,12],⟨some 35,.bin .eql (.t 34) (.d (.str ⟨#[49]⟩)),some (31,true),[15,12]⟩,oo_ 36 (.pick (.t 31) (.t 35) (.d (.bool
 false))) [12,16],om_ 37 36 [17,15],og_ 38 (.fa 6 (.t 4)) 37 true [18],og_ 39 (.load true 3 (.t 38)) 37 true [19,18],og_ 40 (.call 38 [(.t 39)]) 37 true [20,18,18],⟨some 41,.bin .eql (.t 40) (.d (.str ⟨#[48]⟩)),some
 (37,true),[21,18]⟩,oo_ 42 (.pick (.t 37) (.t 41) (.d (.bool false))) [18,22],om_ 0 42 [23,21,0,1,2,3,4,5,6,7,8,9,10,11,12,13,14,15,16,17,18,19,20,21,22,23]]) .ret)))))
theorem o_76 : fnOf Tryz.prog o_74 = some (o_75, [.t 0], 43, false) := by kernel_rfl

abbrev o_77 : FuncId := 33
def o_78 : C := (.seq (.reg false [oo_ 1 (.box 59 (.t 0)) [],oo_ 2 (.new 59 [(.int .i64 0),(.int .i64 0),(.int .i64 0)]) []]) (.seq (.reg false [oo_ 4 (.load true 3 (.t 1)) [],oo_ 5 (.build [(.int .i64 0),(.int .i64 0),(.bool false)]
 []) [],oo_ 6 (.call 36 [(.t 4),(.t 5)]) [0,1],om_ 3 6 [2],oo_ 7 (.ext (.t 3) 0) [3],oo_ 8 (.ext (.t 3) 1) [3],on_ (.store 3 (.t 1) (.t 7)) [4,2,0,1,2,3,4]]) (.seq (.seq (.reg false [oo_ 9 (.fa 0 (.t 1)) [],oo_ 10 (.load
 false 1 (.t 9)) [0],oo_ 11 (.bin .eql (.t 10) (.d (.int .i64 4))) [1]]) (.cond (.t 11) (.reg false [oo_ 12 (.fa 1 (.t 1)) [],oo_ 13 (.load false 1 (.t 12)) [0],oo_ 14 (.bin .and (.t 13) (.d (.int .i64 1))) [1],oo_ 15
 (.fa 2 (.t 1)) [],oo_ 16 (.load false 1 (.t 15)) [3],oo_ 17 (.bin .and (.t 16) (.d (.int .i64 3))) [4],oo_ 18 (.bin .add (.d (.int .i64 1)) (.t 17)) [5],oo_ 19 (.fa 0 (.t 1)) [0,1,3,4],on_ (.store 1 (.t 19) (.d (.int
 .i64 2))) [7,0,1,3,4],oo_ 20 (.fa 1 (.t 1)) [0,1,2,3,4,7,8],on_ (.store 1 (.t 20) (.t 14)) [9,2,8,0,1,2,3,4,7,8],oo_ 21 (.fa 2 (.t 1)) [0,1,2,3,4,5,6,7,8,9,10],on_ (.store 1 (.t 21) (.t 18))
 [11,6,10,0,1,2,3,4,5,6,7,8,9,10]]) .skip)) (.seq (.reg false [oo_ 22 (.load true 3 (.t 1)) [],on_ (.store 3 (.t 2) (.t 22)) [0,0]]) .ret))))
theorem o_79 : fnOf Tryz.prog o_77 = some (o_78, [.cell 2 true 3], 23, false) := by kernel_rfl

abbrev o_7a : FuncId := 34
def o_7b : C := (.seq (.reg false [oo_ 2 (.box 62 (.t 0)) [],oo_ 4 (.new 80 [.nilsl,(.bool false),.nilsl,.nilsl,(.bool false),.nilsl,.nilsl,(.bool false),.nilsl]) [],oo_ 5 (.mv (.d (.int .i64 0))) []]) (.seq (.reg false [oo_ 13 (.load
 true 3 (.t 2)) [],om_ 14 1 [],oo_ 15 (.call 85 [(.t 13),(.t 14),(.fn 86)]) [0,1],om_ 12 15 [2],oo_ 16 (.ext (.t 12) 0) [3],oo_ 17 (.ext (.t 12) 1) [3],oo_ 6 (.new 47 [.nilsl,(.bool false),.nilsl]) [],on_ (.store 3 (.t
 6) (.t 16)) [6,4,2,0,1,2,3,4,6],om_ 7 17 [5,7,0,1,2,3,4,5,6,7]]) (.seq (.seq (.reg false [om_ 18 7 [],oo_ 19 (.bin .neq (.t 18) (.d (.int .i64 0))) [0]]) (.cond (.t 19) (.seq (.reg false [oo_ 20 (.build [.nilsl,(.bool
 false),.nilsl,.nilsl,(.bool false),.nilsl,.nilsl,(.bool false),.nilsl] []) [],om_ 21 7 [],on_ (.store 9 (.t 4) (.t 20)) [0,0],om_ 5 21 [1,2,0,1,2]]) .ret) .skip)) (.seq (.reg false [oo_ 23 (.load true 3 (.t 2)) [],om_
 24 1 [],oo_ 25 (.call 85 [(.t 23),(.t 24),(.fn 87)]) [0,1],om_ 22 25 [2],oo_ 26 (.ext (.t 22) 0) [3],oo_ 27 (.ext (.t 22) 1) [3],oo_ 8 (.new 47 [.nilsl,(.bool false),.nilsl]) [],on_ (.store 3 (.t 8) (.t 26))
 [6,4,2,0,1,2,3,4,6],om_ 9 27 [5,7,0,1,2,3,4,5,6,7]]) (.seq (.reg false [oo_ 29 (.load true 3 (.t 2)) [],om_ 30 1 [],oo_ 31 (.call 85 [(.t 29),(.t 30),(.fn 88)]) [0,1],om_ 28 31 [2],oo_ 32 (.ext (.t 28) 0) [3],oo_ 33
 (.ext (.t 28) 1) [3],oo_ 10 (.new 47 [.nilsl,(.bool false),.nilsl]) [],on_ (.store 3 (.t 10) (.t 32)) [6,4,2,0,1,2,3,4,6],om_ 11 33 [5,7,0,1,2,3,4,5,6,7]]) (.seq (.reg true [oo_ 34 (.load true 3 (.t 6)) [],oo_ 35 (.load
 true 3 (.t 8)) [],oo_ 36 (.load true 3 (.t 6)) [],oo_ 37 (.load true 3 (.t 6)) [],oo_ 38 (.call 39 [(.t 36),(.t 37)]) [2,3],oo_ 39 (.call 40 [(.t 35),(.t 38)]) [1,4,4],oo_ 40 (.load true 3 (.t 10)) [],oo_ 41 (.build
 [.nilsl,(.bool false),.nilsl,.nilsl,(.bool false),.nilsl,.nilsl,(.bool false),.nilsl] [(0,3,(.t 34)),(3,3,(.t 39)),(6,3,(.t 40))]) [0,5,6],on_ (.store 9 (.t 4) (.t 41)) [7,5,0,1,2,3,4,5,6,7],oo_ 5 (.mv (.d (.int .i64
 0))) [8,0,1,2,3,4,5,6,7,8]]) .ret))))))
theorem o_7c : fnOf Tryz.prog o_7a = some (o_7b, [.cell 4 true 9, .t 5], 42, false) := by kernel_rfl

abbrev o_7d : FuncId := 35
def o_7e : C := (.seq (.reg false [oo_ 2 (.new 47 [.nilsl,(.bool false),.nilsl]) []]) (.seq (.reg false [om_ 3 0 [],oo_ 4 (.call 67 [(.t 3)]) [0],oo_ 5 (.build [.nilsl,(.bool false),.nilsl] [(0,2,(.t 4))]) [1],on_ (.store 3 (.t 2) (.t
 5)) [2,1,0,1,2]]) .ret))
theorem o_7f : fnOf Tryz.prog o_7d = some (o_7e, [.cell 2 true 3], 6, false) := by kernel_rfl

abbrev o_7g : FuncId := 36
def o_7h : C := (.seq (.reg false [oo_ 2 (.box 59 (.t 0)) [],oo_ 3 (.box 61 (.t 1)) [],oo_ 4 (.new 59 [(.int .i64 0),(.int .i64 0),(.int .i64 0)]) [],oo_ 5 (.new 61 [(.int .i64 0),(.int .i64 0),(.bool false)]) []]) (.seq (.reg false
 [oo_ 6 (.fa 0 (.t 2)) [],oo_ 7 (.load false 1 (.t 6)) [0],oo_ 8 (.bin .rem (.t 7) (.d (.int .i64 4))) [1],oo_ 9 (.bin .add (.t 8) (.d (.int .i64 4))) [2],oo_ 10 (.bin .rem (.t 9) (.d (.int .i64 4))) [3],oo_ 11 (.bin
 .add (.d (.int .i64 1)) (.t 10)) [4],oo_ 12 (.fa 0 (.t 2)) [0,1,2,3,4,5],on_ (.store 1 (.t 12) (.t 11)) [6,5,0,1,2,3,4,5]]) (.seq (.seq (.reg false [oo_ 13 (.fa 0 (.t 2)) [],oo_ 14 (.load false 1 (.t 13)) [0]]) (.block
 0 (.seq (.reg false [oo_ 25 (.bin .eql (.t 14) (.d (.int .i64 1))) [],om_ 24 25 [0]]) (.cond (.t 24) (.reg false [oo_ 26 (.fa 1 (.t 2)) [],oo_ 27 (.load false 1 (.t 26)) [0],oo_ 28 (.bin .and (.t 27) (.d (.int .i64 3)))
 [1],oo_ 29 (.bin .add (.d (.int .i64 1)) (.t 28)) [2],oo_ 30 (.fa 2 (.t 2)) [],oo_ 31 (.load false 1 (.t 30)) [4],oo_ 32 (.bin .and (.t 31) (.d (.int .i64 255))) [5],oo_ 33 (.bin .rem (.t 32) (.d (.int .i64 4))) [6],oo_
 34 (.bin .add (.d (.int .i64 1)) (.t 33)) [7],oo_ 35 (.fa 1 (.t 2)) [0,1,2,3,4,5],on_ (.store 1 (.t 35) (.t 29)) [9,3,0,1,2,3,4,5],oo_ 36 (.fa 2 (.t 2)) [0,1,2,3,4,5,6,7,8,9,10],on_ (.store 1 (.t 36) (.t 34))
 [11,8,10,0,1,2,3,4,5,6,7,8,9,10]]) (.seq (.reg false [oo_ 38 (.bin .eql (.t 14) (.d (.int .i64 2))) [],om_ 37 38 [0]]) (.cond (.t 37) (.reg false [oo_ 39 (.fa 1 (.t 2)) [],oo_ 40 (.load false 1 (.t 39)) [0],oo_ 41 (.bin
 .and (.t 40) (.d (.int .i64 1))) [1],oo_ 42 (.fa 2 (.t 2)) [],oo_ 43 (.load false 1 (.t 42)) [3],oo_ 44 (.bin .and (.t 43) (.d (.int .i64 255))) [4],oo_ 45 (.bin .rem (.t 44) (.d (.int .i64 4))) [5],oo_ 46 (.bin .add
 (.d (.int .i64 1)) (.t 45)) [6],oo_ 47 (.fa 1 (.t 2)) [0,1,2,3,4],on_ (.store 1 (.t 47) (.t 41)) [8,2,0,1,2,3,4],oo_ 48 (.fa 2 (.t 2)) [0,1,2,3,4,5,6,7,8,9],on_ (.store 1 (.t 48) (.t 46)) [10,7,9,0,1,2,3,4,5,6,7,8,9]])
 (.seq (.reg false [oo_ 50 (.bin .eql (.t 14) (.d (.int .i64 3))) [],om_ 49 50 [0]]) (.cond (.t 49) (.reg false [oo_ 51 (.fa 1 (.t 2)) [],oo_ 52 (.load false 1 (.t 51)) [0],oo_ 53 (.bin .and (.t 52) (.d (.int .i64 1)))
 [1],oo_ 54 (.bin .add (.d (.int .i64 1)) (.t 53)) [2],oo_ 55 (.fa 2 (.t 2)) [],oo_ 56 (.load false 1 (.t 55)) [4],oo_ 57 (.bin .and (.t 56) (.d (.int .i64 255))) [5],oo_ 58 (.bin .rem (.t 57) (.d (.int .i64 4))) [6],oo_
 59 (.bin .add (.d (.int .i64 1)) (.t 58)) [7],oo_ 60 (.fa 1 (.t 2)) [0,1,2,3,4,5],on_ (.store 1 (.t 60) (.t 54)) [9,3,0,1,2,3,4,5],oo_ 61 (.fa 2 (.t 2)) [0,1,2,3,4,5,6,7,8,9,10],on_ (.store 1 (.t 61) (.t 59))
 [11,8,10,0,1,2,3,4,5,6,7,8,9,10]]) (.reg false [oo_ 15 (.fa 1 (.t 2)) [],oo_ 16 (.load false 1 (.t 15)) [0],oo_ 17 (.bin .and (.t 16) (.d (.int .i64 7))) [1],oo_ 18 (.bin .add (.d (.int .i64 1)) (.t 17)) [2],oo_ 19 (.fa
 2 (.t 2)) [],oo_ 20 (.load false 1 (.t 19)) [4],oo_ 21 (.bin .and (.t 20) (.d (.int .i64 3))) [5],oo_ 22 (.fa 1 (.t 2)) [0,1,2,3,4,5],on_ (.store 1 (.t 22) (.t 18)) [7,3,0,1,2,3,4,5],oo_ 23 (.fa 2 (.t 2))
 [0,1,2,3,4,5,6,7,8],on_ (.store 1 (.t 23) (.t 21)) [9,6,8,0,1,2,3,4,5,6,7,8]]))))))))) (.seq (.reg true [oo_ 62 (.load true 3 (.t 2)) [],oo_ 63 (.load true 3 (.t 2)) [],oo_ 64 (.load true 3 (.t 3)) [],oo_ 65 (.call 90
 [(.t 63),(.t 64)]) [1,2],on_ (.store 3 (.t 4) (.t 62)) [0,3,0],on_ (.store 3 (.t 5) (.t 65)) [3,4,0,1,2,3,4]]) .ret))))
theorem o_7i : fnOf Tryz.prog o_7g = some (o_7h, [.cell 4 true 3, .cell 5 true 3], 66, false) := by kernel_rfl

abbrev o_7j : FuncId := 37
def o_7k : C := (.seq (.reg false [oo_ 3 (.box 62 (.t 0)) [],oo_ 5 (.box 47 (.t 2)) [],oo_ 6 (.new 47 [.nilsl,(.bool false),.nilsl]) [],oo_ 7 (.mv (.d (.int .i64 0))) []]) (.seq (.reg false [oo_ 8 (.load true 3 (.t 3)) [],om_ 9 1
 [],oo_ 10 (.mkf (.func 91) [(.t 5)]) [],oo_ 11 (.call 85 [(.t 8),(.t 9),(.t 10)]) [0,1,2],oo_ 12 (.ext (.t 11) 0) [3],oo_ 13 (.ext (.t 11) 1) [3],on_ (.store 3 (.t 6) (.t 12)) [4,3,0,1,2,3,4,5],om_ 7 13
 [5,6,0,1,2,3,4,5,6]]) .ret))
theorem o_7l : fnOf Tryz.prog o_7j = some (o_7k, [.cell 6 true 3, .t 7], 14, false) := by kernel_rfl

abbrev o_7m : FuncId := 38
def o_7n : C := (.seq (.reg false [oo_ 1 (.box 47 (.t 0)) [],⟨some 2,.mv (.d (.str ⟨#[]⟩)),none,[]⟩]) (.seq (.seq (.reg false [oo_ 3 (.load true 3 (.t 1)) [],oo_ 4 (.call 92 [(.t 3)]) [0]]) (.cond (.t 4) (.seq (.reg false [oo_ 5 (.fa 0
 (.t 1)) [],oo_ 6 (.load true 2 (.t 5)) [0],oo_ 7 (.call 93 [(.t 6)]) [1],om_ 2 7 [2,2,0,1,2]]) .ret) .skip)) (.seq (.reg true [oo_ 8 (.fa 0 (.t 1)) [],oo_ 9 (.load true 2 (.t 8)) [0],oo_ 10 (.call 93 [(.t 9)]) [1],⟨some
 11,.bin .add (.t 10) (.d (.str ⟨#[47]⟩)),none,[2]⟩,oo_ 12 (.load true 3 (.t 1)) [],oo_ 13 (.call 94 [(.t 12)]) [4,2],oo_ 14 (.call 95 [(.t 13)]) [5,5],oo_ 15 (.bin .add (.t 11) (.t 14)) [3,6],om_ 2 15
 [7,6,0,1,2,3,4,5,6,7]]) .ret)))
theorem o_7o : fnOf Tryz.prog o_7m = some (o_7n, [.t 2], 16, false) := by kernel_rfl

abbrev o_7p : FuncId := 39
def o_7q : C := (.seq (.reg false [oo_ 2 (.box 47 (.t 0)) [],oo_ 3 (.box 47 (.t 1)) [],oo_ 4 (.new 47 [.nilsl,(.bool false),.nilsl]) []]) (.seq (.reg true [oo_ 5 (.fa 0 (.t 2)) [],oo_ 6 (.load true 2 (.t 5)) [0],oo_ 7 (.fa 0 (.t 3))
 [],oo_ 8 (.load true 2 (.t 7)) [2],oo_ 9 (.call 83 [(.t 6),(.t 8)]) [1,3],oo_ 10 (.load true 3 (.t 2)) [],oo_ 11 (.call 94 [(.t 10)]) [5,4],oo_ 12 (.load true 3 (.t 3)) [],oo_ 13 (.call 94 [(.t 12)]) [7,6],oo_ 14 (.call
 97 [(.t 11),(.t 13)]) [6,8,8],oo_ 15 (.call 96 [(.t 9),(.t 14)]) [4,9,9],on_ (.store 3 (.t 4) (.t 15)) [10,10,0,1,2,3,4,5,6,7,8,9,10]]) .ret))
theorem o_7r : fnOf Tryz.prog o_7p = some (o_7q, [.cell 4 true 3], 16, false) := by kernel_rfl

abbrev o_7s : FuncId := 40
def o_7t : C := (.seq (.reg false [oo_ 2 (.box 47 (.t 0)) [],oo_ 3 (.box 47 (.t 1)) [],oo_ 4 (.new 47 [.nilsl,(.bool false),.nilsl]) []]) (.seq (.reg true [oo_ 5 (.load true 3 (.t 2)) [],oo_ 6 (.fa 0 (.t 3)) [],oo_ 7 (.load true 2 (.t
 6)) [1],oo_ 8 (.call 98 [(.t 7)]) [2],oo_ 9 (.fa 2 (.t 3)) [],oo_ 10 (.load true 1 (.t 9)) [4],oo_ 11 (.build [.nilsl,(.bool false),.nilsl] [(0,2,(.t 8)),(2,1,(.t 10))]) [3,5],oo_ 12 (.call 46 [(.t 5),(.t 11)])
 [0,6,3],on_ (.store 3 (.t 4) (.t 12)) [7,7,0,1,2,3,4,5,6,7]]) .ret))
theorem o_7u : fnOf Tryz.prog o_7s = some (o_7t, [.cell 4 true 3], 13, false) := by kernel_rfl

abbrev o_7v : FuncId := 46
def o_7w : C := (.seq (.reg false [oo_ 2 (.box 47 (.t 0)) [],oo_ 3 (.box 47 (.t 1)) [],oo_ 4 (.new 47 [.nilsl,(.bool false),.nilsl]) []]) (.seq (.reg true [oo_ 5 (.fa 0 (.t 2)) [],oo_ 6 (.load true 2 (.t 5)) [0],oo_ 7 (.load true 3 (.t
 3)) [],oo_ 8 (.call 84 [(.t 7)]) [2],oo_ 9 (.call 83 [(.t 6),(.t 8)]) [1,3,3],oo_ 10 (.fa 0 (.t 3)) [],oo_ 11 (.load true 2 (.t 10)) [5],oo_ 12 (.load true 3 (.t 2)) [],oo_ 13 (.call 84 [(.t 12)]) [7,4],oo_ 14 (.call 83
 [(.t 11),(.t 13)]) [6,8,8],oo_ 15 (.call 110 [(.t 9),(.t 14)]) [4,9,9],oo_ 16 (.load true 3 (.t 2)) [],oo_ 17 (.call 94 [(.t 16)]) [11,10],oo_ 18 (.load true 3 (.t 3)) [],oo_ 19 (.call 94 [(.t 18)]) [13,12],oo_ 20
 (.call 97 [(.t 17),(.t 19)]) [12,14,14],oo_ 21 (.call 96 [(.t 15),(.t 20)]) [10,15,15],on_ (.store 3 (.t 4) (.t 21)) [16,16,0,1,2,3,4,5,6,7,8,9,10,11,12,13,14,15,16]]) .ret))
theorem o_7x : fnOf Tryz.prog o_7v = some (o_7w, [.cell 4 true 3], 22, false) := by kernel_rfl

abbrev o_7y : FuncId := 52
def o_7z : C := (.seq (.reg false [oo_ 1 (.box 26 (.t 0)) [],oo_ 2 (.mv (.d (.int .i64 0))) []]) (.seq (.reg false [oo_ 4 (.load true 3 (.t 1)) [],oo_ 5 (.call 56 [(.t 4)]) [0],om_ 3 5 [1,1,0,1]]) (.seq (.seq (.reg false [om_ 6 3
 [],oo_ 7 (.inl false (.t 6)) [0],om_ 8 7 [1],og_ 9 (.mv (.t 3)) 8 false [2],og_ 10 (.inv (.t 9) "tallymark/chain.good" []) 8 false [3,2,2],og_ 11 (.un .not (.t 10)) 8 false [4,2],oo_ 12 (.pick (.t 8) (.d (.bool true))
 (.t 11)) [2,5],om_ 13 12 [6,4],og_ 14 (.fa 2 (.t 1)) 13 false [7],og_ 15 (.load false 1 (.t 14)) 13 false [8,7],og_ 16 (.bin .lss (.t 15) (.d (.int .i64 1))) 13 false [9,7],oo_ 17 (.pick (.t 13) (.d (.bool true)) (.t
 16)) [7,10],om_ 18 17 [11,7],og_ 19 (.fa 2 (.t 1)) 18 false [12],og_ 20 (.load false 1 (.t 19)) 18 false [13,12],og_ 21 (.bin .gtr (.t 20) (.d (.int .i64 10))) 18 false [14,12],oo_ 22 (.pick (.t 18) (.d (.bool true))
 (.t 21)) [12,15]]) (.cond (.t 22) (.seq (.reg false [oo_ 2 (.mv (.d (.int .i64 10))) []]) .ret) .skip)) (.seq (.seq (.reg true [oo_ 23 (.fa 0 (.t 1)) [],oo_ 24 (.load false 1 (.t 23)) [0],oo_ 25 (.bin .eql (.t 24) (.d
 (.int .i64 1))) [1],om_ 26 25 [2],og_ 27 (.fa 1 (.t 1)) 26 true [3],og_ 28 (.load false 1 (.t 27)) 26 true [4,3],og_ 29 (.bin .add (.t 28) (.d (.int .i64 1))) 26 true [5,3],og_ 30 (.conv .u64 (.t 29)) 26 true [6,3],og_
 31 (.call 115 [(.t 30)]) 26 true [7,3,3],og_ 32 (.fa 2 (.t 1)) 26 true [3],og_ 33 (.load false 1 (.t 32)) 26 true [9,3],og_ 34 (.bin .shl (.d (.int .i64 1)) (.t 33)) 26 true [10,3],og_ 35 (.bin .sub (.t 34) (.d (.int
 .i64 1))) 26 true [11,3],og_ 36 (.bin .mul (.t 31) (.t 35)) 26 true [8,12,3],og_ 37 (.bin .gtr (.t 36) (.d (.int .i64 8192))) 26 true [13,3],oo_ 38 (.pick (.t 26) (.t 37) (.d (.bool false))) [3,14]]) (.cond (.t 38)
 (.seq (.reg false [oo_ 2 (.mv (.d (.int .i64 10))) []]) .ret) .skip)) (.seq (.reg false [oo_ 2 (.mv (.d (.int .i64 0))) []]) .ret)))))
theorem o_80 : fnOf Tryz.prog o_7y = some (o_7z, [.t 2], 39, false) := by kernel_rfl

abbrev o_81 : FuncId := 53
def o_82 : C := (.seq (.reg false [oo_ 1 (.box 26 (.t 0)) [],oo_ 2 (.mv (.d (.int .i64 0))) []]) (.seq (.seq (.reg false [oo_ 3 (.load true 3 (.t 1)) [],oo_ 4 (.call 52 [(.t 3)]) [0],oo_ 5 (.bin .neq (.t 4) (.d (.int .i64 0))) [1]])
 (.cond (.t 5) (.seq (.reg false [oo_ 2 (.mv (.d (.int .i64 0))) []]) .ret) .skip)) (.seq (.reg false [oo_ 6 (.fa 2 (.t 1)) [],oo_ 7 (.load false 1 (.t 6)) [0],oo_ 8 (.bin .shl (.d (.int .i64 1)) (.t 7)) [1],oo_ 9 (.bin
 .sub (.t 8) (.d (.int .i64 1))) [2],om_ 2 9 [3,0,1,2,3]]) .ret)))
theorem o_83 : fnOf Tryz.prog o_81 = some (o_82, [.t 2], 10, false) := by kernel_rfl

abbrev o_84 : FuncId := 55
def o_85 : C := (.seq (.reg false [oo_ 2 (.box 26 (.t 0)) [],oo_ 4 (.mv (.d (.int .i64 0))) []]) (.seq (.seq (.reg false [oo_ 8 (.load true 3 (.t 2)) [],oo_ 9 (.call 52 [(.t 8)]) [0],om_ 5 9 [1,1,0,1]]) (.seq (.reg false [om_ 10 5
 [],oo_ 11 (.bin .neq (.t 10) (.d (.int .i64 0))) [0]]) (.cond (.t 11) (.seq (.reg false [om_ 12 5 [],om_ 4 12 [0,0]]) .ret) .skip))) (.seq (.seq (.reg false [om_ 13 1 [],oo_ 14 (.len (.t 13)) [0],oo_ 15 (.mv (.d (.int
 .i64 0))) []]) (.block 0 (.loop (.seq (.reg false [oo_ 16 (.bin .lss (.t 15) (.t 14)) []]) (.seq (.cond (.t 16) .skip (.exit 0)) (.seq (.block 1 (.seq (.reg false [oo_ 17 (.ix 1 (.t 13) (.t 15)) [],oo_ 18 (.load false 1
 (.t 17)) [0],om_ 7 18 [1,0,1]]) (.seq (.reg false [om_ 19 7 [],oo_ 20 (.bin .lss (.t 19) (.d (.int .i64 0))) [0],om_ 21 20 [1],og_ 22 (.mv (.t 7)) 21 false [2],og_ 23 (.load true 3 (.t 2)) 21 false [2],og_ 24 (.call 53
 [(.t 23)]) 21 false [4,2,2],og_ 25 (.bin .gtr (.t 22) (.t 24)) 21 false [3,5,2],oo_ 26 (.pick (.t 21) (.d (.bool true)) (.t 25)) [2,6]]) (.cond (.t 26) (.seq (.reg false [oo_ 4 (.mv (.d (.int .i64 2))) []]) .ret)
 .skip)))) (.reg false [oo_ 27 (.bin .add (.t 15) (.d (.int .i64 1))) [],om_ 15 27 [0]]))))))) (.seq (.reg false [oo_ 4 (.mv (.d (.int .i64 0))) []]) .ret))))
theorem o_86 : fnOf Tryz.prog o_84 = some (o_85, [.t 4], 28, false) := by kernel_rfl

abbrev o_87 : FuncId := 56
def o_88 : C := (.seq (.reg false [oo_ 1 (.box 26 (.t 0)) [],oo_ 2 (.mv (.d .nilifc)) []]) (.seq (.seq (.reg false [oo_ 3 (.fa 0 (.t 1)) [],oo_ 4 (.load false 1 (.t 3)) [0]]) (.block 0 (.seq (.reg false [oo_ 6 (.bin .eql (.t 4) (.d
 (.int .i64 1))) [],om_ 5 6 [0]]) (.cond (.t 5) (.seq (.reg false [oo_ 7 (.fa 1 (.t 1)) [],oo_ 8 (.load false 1 (.t 7)) [0],oo_ 9 (.ifc 182 (.t 8)) [1],om_ 2 9 [2,0,1,2]]) .ret) (.seq (.reg false [oo_ 11 (.bin .eql (.t
 4) (.d (.int .i64 2))) [],om_ 10 11 [0]]) (.cond (.t 10) (.seq (.reg false [oo_ 12 (.fa 1 (.t 1)) [],oo_ 13 (.load false 1 (.t 12)) [0],oo_ 14 (.ifc 183 (.t 13)) [1],om_ 2 14 [2,0,1,2]]) .ret) (.seq (.reg false [oo_ 16
 (.bin .eql (.t 4) (.d (.int .i64 3))) [],om_ 15 16 [0]]) (.cond (.t 15) (.seq (.reg false [oo_ 17 (.fa 1 (.t 1)) [],oo_ 18 (.load false 1 (.t 17)) [0],oo_ 19 (.ifc 184 (.t 18)) [1],om_ 2 19 [2,0,1,2]]) .ret)
 .skip)))))))) (.seq (.reg false [oo_ 2 (.mv (.d .nilifc)) []]) .ret)))
theorem o_89 : fnOf Tryz.prog o_87 = some (o_88, [.t 2], 20, false) := by kernel_rfl

abbrev o_8a : FuncId := 66
def o_8b : C := (.seq (.reg false [oo_ 2 (.box 45 (.t 0)) [],oo_ 3 (.box 45 (.t 1)) [],oo_ 4 (.new 47 [.nilsl,(.bool false),.nilsl]) [],oo_ 5 (.mv (.d (.int .i64 0))) []]) (.seq (.seq (.reg false [oo_ 6 (.load true 2 (.t 3)) [],oo_ 7
 (.call 128 [(.t 6)]) [0],oo_ 8 (.call 129 [(.t 7)]) [1,1]]) (.cond (.t 8) (.seq (.reg false [oo_ 9 (.build [.nilsl,(.bool false),.nilsl] []) [],on_ (.store 3 (.t 4) (.t 9)) [0,0],oo_ 5 (.mv (.d (.int .i64 7))) [1,0,1]])
 .ret) .skip)) (.seq (.reg true [oo_ 10 (.load true 2 (.t 2)) [],oo_ 11 (.call 131 [(.t 10)]) [0],oo_ 12 (.load true 2 (.t 3)) [],oo_ 13 (.call 131 [(.t 12)]) [2,1],oo_ 14 (.beq true (.t 11) (.t 13)) [1,3],oo_ 15 (.load
 true 2 (.t 2)) [],oo_ 16 (.call 128 [(.t 15)]) [5,3],oo_ 17 (.call 130 [(.t 14),(.t 16)]) [4,6,6],oo_ 18 (.load true 2 (.t 3)) [],oo_ 19 (.call 128 [(.t 18)]) [8,7],oo_ 20 (.call 96 [(.t 17),(.t 19)]) [7,9,9],on_
 (.store 3 (.t 4) (.t 20)) [10,10,0,1,2,3,4,5,6,7,8,9,10],oo_ 5 (.mv (.d (.int .i64 0))) [11,0,1,2,3,4,5,6,7,8,9,10,11]]) .ret)))
theorem o_8c : fnOf Tryz.prog o_8a = some (o_8b, [.cell 4 true 3, .t 5], 21, false) := by kernel_rfl

abbrev o_8d : FuncId := 67
def o_8e : C := (.seq (.reg false [oo_ 2 (.new 45 [.nilsl,(.bool false)]) []]) (.seq (.seq (.reg false [om_ 3 0 [],oo_ 4 (.bin .lss (.t 3) (.d (.int .i64 0))) [0]]) (.cond (.t 4) (.seq (.reg false [om_ 5 0 [],oo_ 6 (.conv .u64 (.t 5))
 [0],oo_ 7 (.un .neg (.t 6)) [1],oo_ 8 (.bsl 199 1 1 [(.int .u64 0)] [(0,1,(.t 7))]) [2],oo_ 9 (.call 132 [(.t 8)]) [3],oo_ 10 (.call 130 [(.d (.bool true)),(.t 9)]) [4,4],on_ (.store 2 (.t 2) (.t 10))
 [5,5,0,1,2,3,4,5]]) .ret) .skip)) (.seq (.reg false [om_ 11 0 [],oo_ 12 (.conv .u64 (.t 11)) [0],oo_ 13 (.bsl 199 1 1 [(.int .u64 0)] [(0,1,(.t 12))]) [1],oo_ 14 (.call 132 [(.t 13)]) [2],oo_ 15 (.call 130 [(.d (.bool
 false)),(.t 14)]) [3,3],on_ (.store 2 (.t 2) (.t 15)) [4,4,0,1,2,3,4]]) .ret)))
theorem o_8f : fnOf Tryz.prog o_8d = some (o_8e, [.cell 2 true 2], 16, false) := by kernel_rfl

abbrev o_8g : FuncId := 69
abbrev o_8h : FuncId := 70
def o_8i : C := (.seq (.reg false [oo_ 2 (.box 62 (.t 0)) [],oo_ 3 (.box 64 (.t 1)) [],oo_ 4 (.mv .bad) []]) (.seq (.seq (.reg false [oo_ 8 (.fa 0 (.t 2)) [],oo_ 9 (.load false 1 (.t 8)) [0],oo_ 10 (.bin .eql (.t 9) (.d (.int .i64 4)))
 [1]]) (.cond (.t 10) (.seq (.reg false [oo_ 11 (.load true 3 (.t 3)) [],oo_ 5 (.new 64 [(.int .i64 0),(.int .i64 0),(.bool false)]) [],on_ (.store 3 (.t 5) (.t 11)) [1,0,0,1]]) (.seq (.reg false [oo_ 12 (.fa 0 (.t 5))
 [],oo_ 13 (.load false 1 (.t 12)) [0],oo_ 14 (.bin .add (.t 13) (.d (.int .i64 1))) [1],oo_ 15 (.fa 0 (.t 5)) [0,1,2],on_ (.store 1 (.t 15) (.t 14)) [3,2,0,1,2]]) (.seq (.reg true [oo_ 16 (.fa 1 (.t 3)) [],oo_ 17 (.load
 false 1 (.t 16)) [0],oo_ 18 (.call 140 [(.t 17)]) [1],oo_ 19 (.load true 3 (.t 5)) [],oo_ 20 (.load true 3 (.t 3)) [],oo_ 21 (.call 139 [(.t 18),(.t 19),(.t 20)]) [2,3,4,2],oo_ 22 (.mkf (.func 141) [(.t 2)]) [],oo_ 23
 (.call 75 [(.t 21),(.t 22)]) [5,6,5],om_ 4 23 [7,7,0,1,2,3,4,5,6,7]]) .ret))) .skip)) (.seq (.reg true [oo_ 25 (.load true 3 (.t 2)) [],oo_ 26 (.call 143 [(.t 25)]) [0],oo_ 27 (.fa 0 (.t 3)) [],oo_ 28 (.load false 1 (.t
 27)) [2],oo_ 29 (.call 144 [(.t 26),(.t 28)]) [1,3,1],om_ 24 29 [4],oo_ 30 (.ext (.t 24) 0) [5],oo_ 31 (.ext (.t 24) 1) [5],oo_ 6 (.new 47 [.nilsl,(.bool false),.nilsl]) [],on_ (.store 3 (.t 6) (.t 30))
 [8,6,4,0,1,2,3,4,5,6,8],om_ 7 31 [7,9,0,1,2,3,4,5,6,7,8,9]]) (.seq (.reg false [oo_ 32 (.load true 3 (.t 2)) [],oo_ 33 (.load true 3 (.t 3)) [],oo_ 34 (.load true 3 (.t 6)) [],oo_ 35 (.call 145 [(.t 32),(.t 33),(.t
 34)]) [0,1,2],om_ 4 35 [3,3,0,1,2,3]]) .ret))))
theorem o_8j : fnOf Tryz.prog o_8h = some (o_8i, [.t 4], 36, false) := by kernel_rfl

abbrev o_8k : FuncId := 71
def o_8l : C := (.seq (.reg false [oo_ 2 (.mv (.d .nilsl)) []]) (.seq (.reg false [oo_ 3 (.mv (.d .nilsl)) []]) (.seq (.seq (.reg false [om_ 6 0 [],oo_ 7 (.mrng 1000391 6 (.t 6)) [0]]) (.block 0 (.loop (.seq (.reg false [oo_ 8 (.mnx
 (.t 7)) [],oo_ 9 (.ext (.t 8) 0) [0]]) (.seq (.cond (.t 9) .skip (.exit 0)) (.block 1 (.seq (.reg false [oo_ 10 (.mety (.t 7)) [],oo_ 11 (.ext (.t 10) 0) [0],oo_ 12 (.ext (.t 10) 1) [0],oo_ 4 (.new 64 [(.int .i64
 0),(.int .i64 0),(.bool false)]) [],oo_ 5 (.new 47 [.nilsl,(.bool false),.nilsl]) [],on_ (.store 3 (.t 4) (.t 11)) [3,1,0,1,3,4],on_ (.store 3 (.t 5) (.t 12)) [4,2,5,0,1,2,3,4,5]]) (.seq (.reg true [oo_ 13 (.load true 3
 (.t 5)) [],oo_ 14 (.call 35 [(.d (.int .i64 0))]) [],oo_ 15 (.call 31 [(.t 13),(.t 14)]) [0,1,1],oo_ 16 (.bin .neq (.t 15) (.d (.int .i64 0))) [2]]) (.cond (.t 16) (.reg false [om_ 17 3 [],oo_ 18 (.load true 3 (.t 4))
 [],oo_ 19 (.load true 3 (.t 5)) [],oo_ 20 (.build [(.int .i64 0),(.int .i64 0),(.bool false),.nilsl,(.bool false),.nilsl] [(0,3,(.t 18)),(3,3,(.t 19))]) [1,2],oo_ 21 (.bsl 75 6 1 [(.int .i64 0),(.int .i64 0),(.bool
 false),.nilsl,(.bool false),.nilsl] [(0,6,(.t 20))]) [3],oo_ 22 (.app 75 6 80 (.t 17) (.t 21)) [0,4],om_ 3 22 [5,5,0,1,2,3,4,5]]) .skip))))))))) (.seq (.reg false [om_ 23 3 [],oo_ 24 (.call 146 [(.t 23),(.fn 147)])
 [0]]) (.seq (.reg false [om_ 25 3 [],om_ 2 25 [0,0]]) .ret)))))
theorem o_8m : fnOf Tryz.prog o_8k = some (o_8l, [.t 2], 26, false) := by kernel_rfl

abbrev o_8n : FuncId := 72
def o_8o : C := (.seq (.reg false [oo_ 2 (.box 62 (.t 0)) [],oo_ 4 (.mv (.d (.int .i64 0))) []]) (.seq (.seq (.reg false [oo_ 6 (.load true 3 (.t 2)) [],oo_ 7 (.call 148 [(.t 6)]) [0],om_ 5 7 [1,1,0,1]]) (.seq (.reg false [om_ 8 5
 [],oo_ 9 (.bin .neq (.t 8) (.d (.int .i64 0))) [0]]) (.cond (.t 9) (.seq (.reg false [om_ 10 5 [],om_ 4 10 [0,0]]) .ret) .skip))) (.seq (.seq (.reg false [om_ 11 1 [],oo_ 12 (.mkf (.func 150) [(.t 2)]) [],oo_ 13 (.call
 149 [(.t 11),(.t 12)]) [0,1]]) (.cond (.t 13) (.seq (.reg false [oo_ 4 (.mv (.d (.int .i64 2))) []]) .ret) .skip)) (.seq (.reg false [oo_ 4 (.mv (.d (.int .i64 0))) []]) .ret))))
theorem o_8p : fnOf Tryz.prog o_8n = some (o_8o, [.t 4], 14, false) := by kernel_rfl

abbrev o_8q : FuncId := 73
def o_8r : C := (.seq (.reg false [oo_ 1 (.box 62 (.t 0)) [],oo_ 2 (.mv (.d (.int .i64 0))) []]) (.seq (.seq (.reg false [oo_ 3 (.fa 0 (.t 1)) [],oo_ 4 (.load false 1 (.t 3)) [0],oo_ 5 (.bin .eql (.t 4) (.d (.int .i64 4))) [1]]) (.cond
 (.t 5) (.seq (.reg false [oo_ 6 (.fa 1 (.t 1)) [],oo_ 7 (.load false 1 (.t 6)) [0],oo_ 8 (.bin .add (.t 7) (.d (.int .i64 1))) [1],oo_ 9 (.fa 2 (.t 1)) [],oo_ 10 (.load false 1 (.t 9)) [3],oo_ 11 (.bin .add (.t 10) (.d
 (.int .i64 1))) [4],oo_ 12 (.bin .mul (.t 8) (.t 11)) [2,5],om_ 2 12 [6,0,1,2,3,4,5,6]]) .ret) .skip)) (.seq (.reg false [oo_ 13 (.fa 2 (.t 1)) [],oo_ 14 (.load false 1 (.t 13)) [0],oo_ 15 (.bin .shl (.d (.int .i64 1))
 (.t 14)) [1],om_ 2 15 [2,0,1,2]]) .ret)))
theorem o_8s : fnOf Tryz.prog o_8q = some (o_8r, [.t 2], 16, false) := by kernel_rfl

abbrev o_8t : FuncId := 74
def o_8u : C := (.seq (.reg false [oo_ 1 (.box 64 (.t 0)) [],oo_ 2 (.mv .bad) []]) (.seq (.reg true [oo_ 3 (.mkm 1000391) [],oo_ 4 (.load true 3 (.t 1)) [],oo_ 5 (.call 35 [(.d (.int .i64 1))]) [],on_ (.mput 1000391 [0,0,1] 3 true (.t
 3) (.t 4) (.t 5)) [0,1,2],om_ 6 3 [0,1,2,3],om_ 2 6 [4,2,0,1,2,3,4]]) .ret))
theorem o_8v : fnOf Tryz.prog o_8t = some (o_8u, [.t 2], 7, false) := by kernel_rfl

abbrev o_8w : FuncId := 75
def o_8x : C := (.seq (.reg false [oo_ 4 (.mv .bad) []]) (.seq (.reg false [oo_ 10 (.mkm 1000391) [],om_ 5 10 [0,0]]) (.seq (.seq (.reg false [om_ 11 0 [],oo_ 12 (.call 71 [(.t 11)]) [0],oo_ 13 (.len (.t 12)) [1],oo_ 14 (.mv (.d (.int
 .i64 0))) []]) (.block 0 (.loop (.seq (.reg false [oo_ 15 (.bin .lss (.t 14) (.t 13)) []]) (.seq (.cond (.t 15) .skip (.exit 0)) (.seq (.block 1 (.seq (.reg false [oo_ 16 (.ix 6 (.t 12) (.t 14)) [],oo_ 17 (.load true 6
 (.t 16)) [0],oo_ 7 (.new 75 [(.int .i64 0),(.int .i64 0),(.bool false),.nilsl,(.bool false),.nilsl]) [],on_ (.store 6 (.t 7) (.t 17)) [2,1,0,1,2]]) (.seq (.reg false [om_ 18 1 [],oo_ 19 (.fa 0 (.t 7)) [],oo_ 20 (.load
 true 3 (.t 19)) [1],oo_ 21 (.callv (.t 18) [(.t 20)]) [0,2],oo_ 22 (.call 71 [(.t 21)]) [3,3],oo_ 23 (.len (.t 22)) [4],oo_ 24 (.mv (.d (.int .i64 0))) []]) (.block 2 (.loop (.seq (.reg false [oo_ 25 (.bin .lss (.t 24)
 (.t 23)) []]) (.seq (.cond (.t 25) .skip (.exit 2)) (.seq (.block 3 (.seq (.reg false [oo_ 26 (.ix 6 (.t 22) (.t 24)) [],oo_ 27 (.load true 6 (.t 26)) [0],oo_ 9 (.new 75 [(.int .i64 0),(.int .i64 0),(.bool
 false),.nilsl,(.bool false),.nilsl]) [],on_ (.store 6 (.t 9) (.t 27)) [2,1,0,1,2]]) (.reg true [om_ 28 5 [],oo_ 29 (.fa 0 (.t 9)) [],oo_ 30 (.load true 3 (.t 29)) [1],oo_ 31 (.fa 3 (.t 7)) [],oo_ 32 (.load true 3 (.t
 31)) [3],oo_ 33 (.fa 3 (.t 9)) [],oo_ 34 (.load true 3 (.t 33)) [5],oo_ 35 (.call 39 [(.t 32),(.t 34)]) [4,6],oo_ 36 (.call 113 [(.t 28),(.t 30),(.t 35)]) [0,2,7,7]]))) (.reg false [oo_ 37 (.bin .add (.t 24) (.d (.int
 .i64 1))) [],om_ 24 37 [0]]))))))))) (.reg false [oo_ 38 (.bin .add (.t 14) (.d (.int .i64 1))) [],om_ 14 38 [0]]))))))) (.seq (.reg false [om_ 39 5 [],om_ 4 39 [0,0]]) .ret))))
theorem o_8y : fnOf Tryz.prog o_8w = some (o_8x, [.t 4], 40, false) := by kernel_rfl

abbrev o_8z : FuncId := 76
def o_90 : C := (.seq (.reg false [oo_ 2 (.box 64 (.t 0)) [],oo_ 3 (.mv .bad) []]) (.seq (.reg false [oo_ 4 (.load true 3 (.t 1)) [],oo_ 5 (.load true 3 (.t 2)) [],oo_ 6 (.call 70 [(.t 4),(.t 5)]) [0,1],om_ 3 6 [2,2,0,1,2]]) .ret))
theorem o_91 : fnOf Tryz.prog o_8z = some (o_90, [.t 3], 7, false) := by kernel_rfl

abbrev o_92 : FuncId := 77
abbrev o_93 : FuncId := 81
def o_94 : C := (.seq (.reg false [oo_ 2 (.box 62 (.t 0)) [],oo_ 3 (.box 64 (.t 1)) [],oo_ 4 (.mv (.d (.bool false))) []]) (.seq (.seq (.reg false [oo_ 6 (.load true 3 (.t 2)) [],oo_ 7 (.call 148 [(.t 6)]) [0],oo_ 8 (.bin .neq (.t 7)
 (.d (.int .i64 0))) [1]]) (.cond (.t 8) (.seq (.reg false [oo_ 4 (.mv (.d (.bool false))) []]) .ret) .skip)) (.seq (.seq (.reg false [oo_ 9 (.fa 0 (.t 2)) [],oo_ 10 (.load false 1 (.t 9)) [0],oo_ 11 (.bin .eql (.t 10)
 (.d (.int .i64 4))) [1]]) (.cond (.t 11) (.seq (.reg true [oo_ 12 (.load true 3 (.t 2)) [],oo_ 13 (.call 101 [(.t 12)]) [0],oo_ 14 (.load true 3 (.t 3)) [],oo_ 15 (.call 103 [(.t 14)]) [2,1],oo_ 16 (.call 154 [(.t
 13),(.t 15)]) [1,3,3],om_ 4 16 [4,4,0,1,2,3,4]]) .ret) .skip)) (.seq (.reg false [oo_ 17 (.load true 3 (.t 2)) [],oo_ 18 (.call 105 [(.t 17)]) [0],oo_ 19 (.call 53 [(.t 18)]) [1,1],om_ 5 19 [2,2,0,1,2]]) (.seq (.reg
 false [oo_ 20 (.fa 1 (.t 3)) [],oo_ 21 (.load false 1 (.t 20)) [0],oo_ 22 (.bin .eql (.t 21) (.d (.int .i64 0))) [1],om_ 23 22 [2],og_ 24 (.fa 0 (.t 3)) 23 true [3],og_ 25 (.load false 1 (.t 24)) 23 true [4,3],og_ 26
 (.bin .geq (.t 25) (.d (.int .i64 0))) 23 true [5,3],oo_ 27 (.pick (.t 23) (.t 26) (.d (.bool false))) [3,6],om_ 28 27 [7,3],og_ 29 (.fa 0 (.t 3)) 28 true [8],og_ 30 (.load false 1 (.t 29)) 28 true [9,8],og_ 31 (.mv (.t
 5)) 28 true [8],og_ 32 (.bin .leq (.t 30) (.t 31)) 28 true [10,11,8],oo_ 33 (.pick (.t 28) (.t 32) (.d (.bool false))) [8,12],om_ 34 33 [13,8],og_ 35 (.fa 2 (.t 3)) 34 true [14],og_ 36 (.load false 1 (.t 35)) 34 true
 [15,14],og_ 37 (.un .not (.t 36)) 34 true [16,14],og_ 38 (.mv (.t 37)) 34 true [17,14,14],og_ 39 (.fa 0 (.t 3)) 38 false [18],og_ 40 (.load false 1 (.t 39)) 38 false [19,18],og_ 41 (.mv (.t 5)) 38 false [18],og_ 42
 (.bin .eql (.t 40) (.t 41)) 38 false [20,21,18],og_ 43 (.pick (.t 38) (.d (.bool true)) (.t 42)) 34 true [18,22,14],oo_ 44 (.pick (.t 34) (.t 43) (.d (.bool false))) [14,23],om_ 4 44
 [24,18,0,1,2,3,4,5,6,7,8,9,10,11,12,13,14,15,16,17,18,19,20,21,22,23,24]]) .ret)))))
theorem o_95 : fnOf Tryz.prog o_93 = some (o_94, [.t 4], 45, false) := by kernel_rfl

abbrev o_96 : FuncId := 82
def o_97 : C := (.seq (.reg false [oo_ 2 (.box 45 (.t 0)) [],oo_ 3 (.box 45 (.t 1)) [],oo_ 4 (.mv (.d (.int .i64 0))) []]) (.seq (.block 0 (.seq (.reg false [oo_ 6 (.fa 1 (.t 2)) [],oo_ 7 (.load false 1 (.t 6)) [0],om_ 8 7 [1],og_ 9
 (.fa 1 (.t 3)) 8 true [2],og_ 10 (.load false 1 (.t 9)) 8 true [3,2],oo_ 11 (.pick (.t 8) (.t 10) (.d (.bool false))) [2,4],om_ 5 11 [5,2]]) (.cond (.t 5) (.seq (.reg false [oo_ 12 (.fa 0 (.t 3)) [],oo_ 13 (.load true 1
 (.t 12)) [0],oo_ 14 (.fa 0 (.t 2)) [],oo_ 15 (.load true 1 (.t 14)) [2],oo_ 16 (.call 155 [(.t 13),(.t 15)]) [1,3],om_ 4 16 [4,4,0,1,2,3,4]]) .ret) (.seq (.reg false [oo_ 18 (.fa 1 (.t 2)) [],oo_ 19 (.load false 1 (.t
 18)) [0],om_ 17 19 [1]]) (.cond (.t 17) (.seq (.reg false [oo_ 4 (.mv (.d (.int .i64 (-1)))) []]) .ret) (.seq (.reg false [oo_ 21 (.fa 1 (.t 3)) [],oo_ 22 (.load false 1 (.t 21)) [0],om_ 20 22 [1]]) (.cond (.t 20) (.seq
 (.reg false [oo_ 4 (.mv (.d (.int .i64 1))) []]) .ret) .skip))))))) (.seq (.reg false [oo_ 23 (.fa 0 (.t 2)) [],oo_ 24 (.load true 1 (.t 23)) [0],oo_ 25 (.fa 0 (.t 3)) [],oo_ 26 (.load true 1 (.t 25)) [2],oo_ 27 (.call
 155 [(.t 24),(.t 26)]) [1,3],om_ 4 27 [4,4,0,1,2,3,4]]) .ret)))
theorem o_98 : fnOf Tryz.prog o_96 = some (o_97, [.t 4], 28, false) := by kernel_rfl

abbrev o_99 : FuncId := 83
def o_9a : C := (.seq (.reg false [oo_ 2 (.box 45 (.t 0)) [],oo_ 3 (.box 45 (.t 1)) [],oo_ 4 (.new 45 [.nilsl,(.bool false)]) []]) (.seq (.reg true [oo_ 5 (.fa 1 (.t 2)) [],oo_ 6 (.load false 1 (.t 5)) [0],oo_ 7 (.fa 1 (.t 3)) [],oo_ 8
 (.load false 1 (.t 7)) [2],oo_ 9 (.beq true (.t 6) (.t 8)) [1,3],oo_ 10 (.fa 0 (.t 2)) [],oo_ 11 (.load true 1 (.t 10)) [5],oo_ 12 (.fa 0 (.t 3)) [],oo_ 13 (.load true 1 (.t 12)) [7],oo_ 14 (.call 97 [(.t 11),(.t 13)])
 [6,8],oo_ 15 (.call 130 [(.t 9),(.t 14)]) [4,9,9],on_ (.store 2 (.t 4) (.t 15)) [10,10,0,1,2,3,4,5,6,7,8,9,10]]) .ret))
theorem o_9b : fnOf Tryz.prog o_99 = some (o_9a, [.cell 4 true 2], 16, false) := by kernel_rfl

abbrev o_9c : FuncId := 84
def o_9d : C := (.seq (.reg false [oo_ 1 (.box 47 (.t 0)) [],oo_ 2 (.new 45 [.nilsl,(.bool false)]) []]) (.seq (.reg false [oo_ 3 (.load true 3 (.t 1)) [],oo_ 4 (.call 94 [(.t 3)]) [0],oo_ 5 (.call 130 [(.d (.bool false)),(.t 4)])
 [1,1],on_ (.store 2 (.t 2) (.t 5)) [2,2,0,1,2]]) .ret))
theorem o_9e : fnOf Tryz.prog o_9c = some (o_9d, [.cell 2 true 2], 6, false) := by kernel_rfl

abbrev o_9f : FuncId := 85
def o_9g : C := (.seq (.reg false [oo_ 3 (.box 62 (.t 0)) [],oo_ 6 (.new 47 [.nilsl,(.bool false),.nilsl]) [],oo_ 7 (.mv (.d (.int .i64 0))) []]) (.seq (.seq (.reg false [oo_ 14 (.load true 3 (.t 3)) [],oo_ 15 (.call 148 [(.t 14)])
 [0],om_ 8 15 [1,1,0,1]]) (.seq (.reg false [om_ 16 8 [],oo_ 17 (.bin .neq (.t 16) (.d (.int .i64 0))) [0]]) (.cond (.t 17) (.seq (.reg false [oo_ 18 (.build [.nilsl,(.bool false),.nilsl] []) [],om_ 19 8 [],on_ (.store 3
 (.t 6) (.t 18)) [0,0],om_ 7 19 [1,2,0,1,2]]) .ret) .skip))) (.seq (.reg false [oo_ 9 (.new 47 [.nilsl,(.bool false),.nilsl]) []]) (.seq (.seq (.reg false [om_ 20 1 [],oo_ 21 (.len (.t 20)) [0],oo_ 22 (.mv (.d (.int .i64
 0))) []]) (.block 0 (.loop (.seq (.reg false [oo_ 23 (.bin .lss (.t 22) (.t 21)) []]) (.seq (.cond (.t 23) .skip (.exit 0)) (.seq (.block 1 (.seq (.reg false [oo_ 24 (.ix 6 (.t 20) (.t 22)) [],oo_ 25 (.load true 6 (.t
 24)) [0],oo_ 11 (.new 75 [(.int .i64 0),(.int .i64 0),(.bool false),.nilsl,(.bool false),.nilsl]) [],on_ (.store 6 (.t 11) (.t 25)) [2,1,0,1,2]]) (.seq (.reg false [oo_ 27 (.load true 3 (.t 3)) [],oo_ 28 (.fa 0 (.t 11))
 [],oo_ 29 (.load true 3 (.t 28)) [1],oo_ 30 (.call 156 [(.t 27),(.t 29)]) [0,2],om_ 26 30 [3],oo_ 31 (.ext (.t 26) 0) [4],oo_ 32 (.ext (.t 26) 1) [4],oo_ 12 (.new 47 [.nilsl,(.bool false),.nilsl]) [],on_ (.store 3 (.t
 12) (.t 31)) [7,5,3,0,1,2,3,4,5,7],om_ 13 32 [6,8,0,1,2,3,4,5,6,7,8]]) (.seq (.seq (.reg false [om_ 33 13 [],oo_ 34 (.bin .neq (.t 33) (.d (.int .i64 0))) [0]]) (.cond (.t 34) (.seq (.reg false [oo_ 35 (.build
 [.nilsl,(.bool false),.nilsl] []) [],om_ 36 13 [],on_ (.store 3 (.t 6) (.t 35)) [0,0],om_ 7 36 [1,2,0,1,2]]) .ret) .skip)) (.reg true [oo_ 37 (.load true 3 (.t 9)) [],oo_ 38 (.fa 3 (.t 11)) [],oo_ 39 (.load true 3 (.t
 38)) [1],om_ 40 2 [],oo_ 41 (.fa 0 (.t 11)) [],oo_ 42 (.load true 3 (.t 41)) [4],oo_ 43 (.load true 3 (.t 12)) [],oo_ 44 (.callv (.t 40) [(.t 42),(.t 43)]) [3,5,6],oo_ 45 (.call 39 [(.t 39),(.t 44)]) [2,7,7],oo_ 46
 (.call 46 [(.t 37),(.t 45)]) [0,8,8],on_ (.store 3 (.t 9) (.t 46)) [9,9,0,1,2,3,4,5,6,7,8,9]]))))) (.reg false [oo_ 47 (.bin .add (.t 22) (.d (.int .i64 1))) [],om_ 22 47 [0]]))))))) (.seq (.reg false [oo_ 48 (.load
 true 3 (.t 9)) [],on_ (.store 3 (.t 6) (.t 48)) [0,0],oo_ 7 (.mv (.d (.int .i64 0))) [1,0,1]]) .ret)))))
theorem o_9h : fnOf Tryz.prog o_9f = some (o_9g, [.cell 6 true 3, .t 7], 49, false) := by kernel_rfl

abbrev o_9i : FuncId := 86
def o_9j : C := (.seq (.reg false [oo_ 2 (.box 64 (.t 0)) [],oo_ 3 (.box 47 (.t 1)) [],oo_ 4 (.new 47 [.nilsl,(.bool false),.nilsl]) []]) (.seq (.reg false [oo_ 5 (.load true 3 (.t 3)) [],on_ (.store 3 (.t 4) (.t 5)) [0,0]]) .ret))
theorem o_9k : fnOf Tryz.prog o_9i = some (o_9j, [.cell 4 true 3], 6, false) := by kernel_rfl

abbrev o_9l : FuncId := 87
def o_9m : C := (.seq (.reg false [oo_ 2 (.box 64 (.t 0)) [],oo_ 3 (.box 47 (.t 1)) [],oo_ 4 (.new 47 [.nilsl,(.bool false),.nilsl]) []]) (.seq (.reg false [oo_ 5 (.load true 3 (.t 3)) [],oo_ 6 (.load true 3 (.t 3)) [],oo_ 7 (.call 39
 [(.t 5),(.t 6)]) [0,1],on_ (.store 3 (.t 4) (.t 7)) [2,2,0,1,2]]) .ret))
theorem o_9n : fnOf Tryz.prog o_9l = some (o_9m, [.cell 4 true 3], 8, false) := by kernel_rfl

abbrev o_9o : FuncId := 88
def o_9p : C := (.seq (.reg false [oo_ 2 (.box 64 (.t 0)) [],oo_ 3 (.box 47 (.t 1)) [],oo_ 4 (.new 47 [.nilsl,(.bool false),.nilsl]) []]) (.seq (.reg false [oo_ 5 (.fa 2 (.t 2)) [],oo_ 6 (.load false 1 (.t 5)) [0],oo_ 7 (.call 89 [(.t
 6)]) [1],on_ (.store 3 (.t 4) (.t 7)) [2,2,0,1,2]]) .ret))
theorem o_9q : fnOf Tryz.prog o_9o = some (o_9p, [.cell 4 true 3], 8, false) := by kernel_rfl

abbrev o_9r : FuncId := 89
def o_9s : C := (.seq (.reg false [oo_ 2 (.new 47 [.nilsl,(.bool false),.nilsl]) []]) (.seq (.seq (.reg false [om_ 3 0 []]) (.cond (.t 3) (.seq (.reg false [oo_ 4 (.call 35 [(.d (.int .i64 1))]) [],on_ (.store 3 (.t 2) (.t 4))
 [0,0,0]]) .ret) .skip)) (.seq (.reg false [oo_ 5 (.build [.nilsl,(.bool false),.nilsl] []) [],on_ (.store 3 (.t 2) (.t 5)) [0,0]]) .ret)))
theorem o_9t : fnOf Tryz.prog o_9r = some (o_9s, [.cell 2 true 3], 6, false) := by kernel_rfl

abbrev o_9u : FuncId := 90
def o_9v : C := (.seq (.reg false [oo_ 2 (.box 59 (.t 0)) [],oo_ 3 (.box 61 (.t 1)) [],oo_ 4 (.new 61 [(.int .i64 0),(.int .i64 0),(.bool false)]) []]) (.seq (.seq (.reg false [oo_ 6 (.fa 0 (.t 2)) [],oo_ 7 (.load false 1 (.t 6))
 [0],oo_ 8 (.bin .eql (.t 7) (.d (.int .i64 4))) [1]]) (.cond (.t 8) (.seq (.reg true [oo_ 9 (.fa 0 (.t 3)) [],oo_ 10 (.load false 1 (.t 9)) [0],oo_ 11 (.bin .and (.t 10) (.d (.int .i64 7))) [1],oo_ 12 (.fa 1 (.t 2))
 [],oo_ 13 (.load false 1 (.t 12)) [3],oo_ 14 (.bin .add (.t 13) (.d (.int .i64 1))) [4],oo_ 15 (.bin .rem (.t 11) (.t 14)) [2,5],oo_ 16 (.fa 1 (.t 3)) [],oo_ 17 (.load false 1 (.t 16)) [7],oo_ 18 (.bin .and (.t 17) (.d
 (.int .i64 3))) [8],oo_ 19 (.fa 2 (.t 2)) [],oo_ 20 (.load false 1 (.t 19)) [10],oo_ 21 (.bin .add (.t 20) (.d (.int .i64 1))) [11],oo_ 22 (.bin .rem (.t 18) (.t 21)) [9,12],oo_ 23 (.fa 0 (.t 3)) [0,1,2,3,4,5,6,7,8],on_
 (.store 1 (.t 23) (.t 15)) [14,6,0,1,2,3,4,5,6,7,8],oo_ 24 (.fa 1 (.t 3)) [0,1,2,3,4,5,6,7,8,9,10,11,12,13,14,15],on_ (.store 1 (.t 24) (.t 22)) [16,13,15,0,1,2,3,4,5,6,7,8,9,10,11,12,13,14,15]]) (.seq (.reg false [oo_
 25 (.fa 2 (.t 3)) [],oo_ 26 (.load false 1 (.t 25)) [0],om_ 27 26 [1],og_ 28 (.fa 1 (.t 3)) 27 true [2],og_ 29 (.load false 1 (.t 28)) 27 true [3,2],og_ 30 (.fa 2 (.t 2)) 27 true [2],og_ 31 (.load false 1 (.t 30)) 27
 true [5,2],og_ 32 (.bin .eql (.t 29) (.t 31)) 27 true [4,6,2],oo_ 33 (.pick (.t 27) (.t 32) (.d (.bool false))) [2,7],oo_ 34 (.fa 2 (.t 3)) [0,1,2,3,4,5,6,7,8],on_ (.store 1 (.t 34) (.t 33)) [9,8,2,0,1,2,3,4,5,6,7,8]])
 (.seq (.reg false [oo_ 35 (.load true 3 (.t 3)) [],on_ (.store 3 (.t 4) (.t 35)) [0,0]]) .ret))) .skip)) (.seq (.reg false [oo_ 36 (.fa 2 (.t 2)) [],oo_ 37 (.load false 1 (.t 36)) [0],oo_ 38 (.bin .shl (.d (.int .i64
 1)) (.t 37)) [1],oo_ 39 (.bin .sub (.t 38) (.d (.int .i64 1))) [2],om_ 5 39 [3,0,1,2,3]]) (.seq (.reg false [oo_ 40 (.fa 0 (.t 3)) [],oo_ 41 (.load false 1 (.t 40)) [0],oo_ 42 (.bin .and (.t 41) (.d (.int .i64 15)))
 [1],om_ 43 5 [],oo_ 44 (.bin .add (.t 43) (.d (.int .i64 1))) [3],oo_ 45 (.bin .rem (.t 42) (.t 44)) [2,4],oo_ 46 (.fa 0 (.t 3)) [0,1,2,3,4,5],on_ (.store 1 (.t 46) (.t 45)) [6,5,0,1,2,3,4,5],oo_ 47 (.fa 1 (.t 3))
 [0,1,2,3,4,5,6,7],on_ (.store 1 (.t 47) (.d (.int .i64 0))) [8,7,0,1,2,3,4,5,6,7]]) (.seq (.reg false [oo_ 48 (.fa 2 (.t 3)) [],oo_ 49 (.load false 1 (.t 48)) [0],om_ 50 49 [1],og_ 51 (.fa 0 (.t 3)) 50 true [2],og_ 52
 (.load false 1 (.t 51)) 50 true [3,2],og_ 53 (.mv (.t 5)) 50 true [2],og_ 54 (.bin .eql (.t 52) (.t 53)) 50 true [4,5,2],oo_ 55 (.pick (.t 50) (.t 54) (.d (.bool false))) [2,6],oo_ 56 (.fa 2 (.t 3))
 [0,1,2,3,4,5,6,7],on_ (.store 1 (.t 56) (.t 55)) [8,7,2,0,1,2,3,4,5,6,7]]) (.seq (.reg false [oo_ 57 (.load true 3 (.t 3)) [],on_ (.store 3 (.t 4) (.t 57)) [0,0]]) .ret))))))
theorem o_9w : fnOf Tryz.prog o_9u = some (o_9v, [.cell 4 true 3], 58, false) := by kernel_rfl

abbrev o_9x : FuncId := 91
def o_9y : C := (.seq (.reg false [oo_ 3 (.box 64 (.t 0)) [],oo_ 4 (.box 47 (.t 1)) [],oo_ 5 (.new 47 [.nilsl,(.bool false),.nilsl]) []]) (.seq (.reg false [oo_ 6 (.load true 3 (.t 4)) [],oo_ 7 (.load true 3 (.t 2)) [],oo_ 8 (.call 31
 [(.t 6),(.t 7)]) [0,1],oo_ 9 (.bin .geq (.t 8) (.d (.int .i64 0))) [2],oo_ 10 (.call 89 [(.t 9)]) [3,2],on_ (.store 3 (.t 5) (.t 10)) [4,4,0,1,2,3,4]]) .ret))
theorem o_9z : fnOf Tryz.prog o_9x = some (o_9y, [.cell 5 true 3], 11, false) := by kernel_rfl

abbrev o_a0 : FuncId := 92
def o_a1 : C := (.seq (.reg false [oo_ 1 (.box 47 (.t 0)) [],oo_ 2 (.mv (.d (.bool false))) []]) (.seq (.reg false [oo_ 3 (.fa 2 (.t 1)) [],oo_ 4 (.load true 1 (.t 3)) [0],oo_ 5 (.call 129 [(.t 4)]) [1],om_ 2 5 [2,2,0,1,2]]) .ret))
theorem o_a2 : fnOf Tryz.prog o_a0 = some (o_a1, [.t 2], 6, false) := by kernel_rfl

abbrev o_a3 : FuncId := 93
def o_a4 : C := (.seq (.reg false [oo_ 1 (.box 45 (.t 0)) [],⟨some 2,.mv (.d (.str ⟨#[]⟩)),none,[]⟩]) (.seq (.seq (.reg false [oo_ 3 (.fa 1 (.t 1)) [],oo_ 4 (.load false 1 (.t 3)) [0]]) (.cond (.t 4) (.seq (.reg false [oo_ 5 (.fa 0 (.t
 1)) [],oo_ 6 (.load true 1 (.t 5)) [0],oo_ 7 (.call 95 [(.t 6)]) [1],⟨some 8,.bin .add (.d (.str ⟨#[45]⟩)) (.t 7),none,[2]⟩,om_ 2 8 [3,2,0,1,2,3]]) .ret) .skip)) (.seq (.reg false [oo_ 9 (.fa 0 (.t 1)) [],oo_ 10 (.load
 true 1 (.t 9)) [0],oo_ 11 (.call 95 [(.t 10)]) [1],om_ 2 11 [2,2,0,1,2]]) .ret)))
theorem o_a5 : fnOf Tryz.prog o_a3 = some (o_a4, [.t 2], 12, false) := by kernel_rfl

abbrev o_a6 : FuncId := 94
def o_a7 : C := (.seq (.reg false [oo_ 1 (.box 47 (.t 0)) [],oo_ 2 (.new 43 [.nilsl]) []]) (.seq (.reg true [oo_ 3 (.fa 2 (.t 1)) [],oo_ 4 (.load true 1 (.t 3)) [0],oo_ 5 (.bsl 199 1 1 [(.int .u64 0)] [(0,1,(.d (.int .u64 1)))]) [],oo_
 6 (.call 132 [(.t 5)]) [2],oo_ 7 (.call 157 [(.t 4),(.t 6)]) [1,3,3],on_ (.store 1 (.t 2) (.t 7)) [4,4,0,1,2,3,4]]) .ret))
theorem o_a8 : fnOf Tryz.prog o_a6 = some (o_a7, [.cell 2 true 1], 8, false) := by kernel_rfl

abbrev o_a9 : FuncId := 95
def o_aa : C := (.seq (.reg false [oo_ 1 (.box 43 (.t 0)) [],⟨some 2,.mv (.d (.str ⟨#[]⟩)),none,[]⟩]) (.seq (.seq (.reg false [oo_ 8 (.load true 1 (.t 1)) [],oo_ 9 (.call 129 [(.t 8)]) [0]]) (.cond (.t 9) (.seq (.reg false [⟨some 2,.mv
 (.d (.str ⟨#[48]⟩)),none,[]⟩]) .ret) .skip)) (.seq (.reg false [⟨some 3,.mv (.d (.str ⟨#[]⟩)),none,[]⟩]) (.seq (.seq (.reg false [oo_ 10 (.fa 0 (.t 1)) [],oo_ 11 (.load false 1 (.t 10)) [0],om_ 4 11 [1,0,1]]) (.block 0
 (.loop (.seq (.seq (.reg false [om_ 12 4 [],oo_ 13 (.len (.t 12)) [0],oo_ 14 (.bin .gtr (.t 13) (.d (.int .i64 0))) [1]]) (.cond (.t 14) .skip (.exit 0))) (.block 1 (.seq (.reg false [om_ 16 4 [],oo_ 17 (.call 158 [(.t
 16),(.d (.int .u64 1000000000000000000))]) [0],om_ 15 17 [1],oo_ 18 (.ext (.t 15) 0) [2],oo_ 19 (.ext (.t 15) 1) [2],om_ 5 18 [3,1,0,1,2,3],om_ 6 19 [4,5,0,1,2,3,4,5]]) (.seq (.reg false [om_ 20 5 [],oo_ 21 (.call 159
 [(.t 20)]) [0],oo_ 22 (.fld false 0 1 (.t 21)) [1],om_ 4 22 [2,1,0,1,2]]) (.seq (.reg false [om_ 23 6 [],oo_ 24 (.call 160 [(.t 23),(.d (.int .i64 10))]) [0],om_ 7 24 [1,1,0,1]]) (.seq (.seq (.reg false [om_ 25 4 [],oo_
 26 (.len (.t 25)) [0],oo_ 27 (.bin .gtr (.t 26) (.d (.int .i64 0))) [1]]) (.cond (.t 27) (.reg false [om_ 28 7 [],oo_ 29 (.lens (.t 28)) [0],oo_ 30 (.bin .sub (.d (.int .i64 18)) (.t 29)) [1],⟨some 31,.call 161 [(.d
 (.str ⟨#[48]⟩)),(.t 30)],none,[2]⟩,om_ 32 7 [],oo_ 33 (.bin .add (.t 31) (.t 32)) [3,4],om_ 7 33 [5,3,0,1,2,3,4,5]]) .skip)) (.reg false [om_ 34 7 [],om_ 35 3 [],oo_ 36 (.bin .add (.t 34) (.t 35)) [0,1],om_ 3 36
 [2,0,1,2]])))))))))) (.seq (.reg false [om_ 37 3 [],om_ 2 37 [0,0]]) .ret)))))
theorem o_ab : fnOf Tryz.prog o_a9 = some (o_aa, [.t 2], 38, false) := by kernel_rfl

abbrev o_ac : FuncId := 96
def o_ad : C := (.seq (.reg false [oo_ 2 (.box 45 (.t 0)) [],oo_ 3 (.box 43 (.t 1)) [],oo_ 4 (.new 47 [.nilsl,(.bool false),.nilsl]) []]) (.seq (.reg true [oo_ 14 (.load true 2 (.t 2)) [],oo_ 15 (.call 128 [(.t 14)]) [0],oo_ 16 (.load
 true 1 (.t 3)) [],oo_ 17 (.call 162 [(.t 15),(.t 16)]) [1,2,1],oo_ 5 (.new 43 [.nilsl]) [],on_ (.store 1 (.t 5) (.t 17)) [4,3,3,0,1,2,3,4]]) (.seq (.reg true [oo_ 19 (.load true 2 (.t 2)) [],oo_ 20 (.call 128 [(.t 19)])
 [0],oo_ 21 (.load true 1 (.t 5)) [],oo_ 22 (.call 163 [(.t 20),(.t 21)]) [1,2,1],om_ 18 22 [3],oo_ 23 (.ext (.t 18) 0) [4],oo_ 24 (.ext (.t 18) 1) [4],oo_ 25 (.ext (.t 18) 2) [4],oo_ 6 (.new 43 [.nilsl]) [],oo_ 7 (.new
 43 [.nilsl]) [],on_ (.store 1 (.t 6) (.t 23)) [8,5,3,0,1,2,3,4,5,8,9],on_ (.store 1 (.t 7) (.t 24)) [9,6,10,0,1,2,3,4,5,6,8,9,10],om_ 8 25 [7,11,0,1,2,3,4,5,6,7,8,9,10,11]]) (.seq (.reg false [oo_ 27 (.load true 1 (.t
 3)) [],oo_ 28 (.load true 1 (.t 5)) [],oo_ 29 (.call 163 [(.t 27),(.t 28)]) [0,1],om_ 26 29 [2],oo_ 30 (.ext (.t 26) 0) [3],oo_ 31 (.ext (.t 26) 1) [3],oo_ 32 (.ext (.t 26) 2) [3],oo_ 9 (.new 43 [.nilsl]) [],oo_ 10
 (.new 43 [.nilsl]) [],on_ (.store 1 (.t 9) (.t 30)) [7,4,2,0,1,2,3,4,7,8],on_ (.store 1 (.t 10) (.t 31)) [8,5,9,0,1,2,3,4,5,7,8,9],om_ 11 32 [6,10,0,1,2,3,4,5,6,7,8,9,10]]) (.seq (.reg true [oo_ 34 (.load true 1 (.t 9))
 [],oo_ 35 (.bsl 199 1 1 [(.int .u64 0)] [(0,1,(.d (.int .u64 1)))]) [],oo_ 36 (.call 132 [(.t 35)]) [1],oo_ 37 (.call 164 [(.t 34),(.t 36)]) [0,2,2],om_ 33 37 [3],oo_ 38 (.ext (.t 33) 0) [4],oo_ 39 (.ext (.t 33) 1)
 [4],oo_ 12 (.new 43 [.nilsl]) [],on_ (.store 1 (.t 12) (.t 38)) [7,5,3,0,1,2,3,4,5,7],om_ 13 39 [6,8,0,1,2,3,4,5,6,7,8]]) (.seq (.reg true [oo_ 40 (.load true 2 (.t 2)) [],oo_ 41 (.call 131 [(.t 40)]) [0],oo_ 42 (.load
 true 1 (.t 6)) [],oo_ 43 (.call 130 [(.t 41),(.t 42)]) [1,2,1],oo_ 44 (.load true 1 (.t 12)) [],oo_ 45 (.build [.nilsl,(.bool false),.nilsl] [(0,2,(.t 43)),(2,1,(.t 44))]) [3,4],on_ (.store 3 (.t 4) (.t 45))
 [5,3,0,1,2,3,4,5]]) .ret))))))
theorem o_ae : fnOf Tryz.prog o_ac = some (o_ad, [.cell 4 true 3], 46, false) := by kernel_rfl

abbrev o_af : FuncId := 97
def o_ag : C := (.seq (.reg false [oo_ 2 (.box 43 (.t 0)) [],oo_ 3 (.box 43 (.t 1)) [],oo_ 4 (.new 43 [.nilsl]) []]) (.seq (.reg false [oo_ 14 (.fa 0 (.t 2)) [],oo_ 15 (.load false 1 (.t 14)) [0],oo_ 16 (.len (.t 15)) [1],oo_ 17 (.fa 0
 (.t 3)) [],oo_ 18 (.load false 1 (.t 17)) [3],oo_ 19 (.len (.t 18)) [4],oo_ 20 (.bin .add (.t 16) (.t 19)) [2,5],oo_ 21 (.mksl 199 1 8 [(.int .u64 0)] (.t 20) (.t 20)) [6,6],om_ 5 21 [7,0,1,2,3,4,5,6,7]]) (.seq (.seq
 (.reg false [oo_ 22 (.fa 0 (.t 2)) [],oo_ 23 (.load false 1 (.t 22)) [0],oo_ 24 (.len (.t 23)) [1],oo_ 25 (.mv (.d (.int .i64 0))) []]) (.block 0 (.loop (.seq (.reg false [oo_ 26 (.bin .lss (.t 25) (.t 24)) []]) (.seq
 (.cond (.t 26) .skip (.exit 0)) (.seq (.block 1 (.seq (.reg false [om_ 27 25 [],oo_ 28 (.ix 1 (.t 23) (.t 25)) [],oo_ 29 (.load false 1 (.t 28)) [1],om_ 6 27 [0,0,1,2],om_ 7 29 [2,3,0,1,2,3]]) (.seq (.reg false [oo_ 8
 (.mv (.d (.int .u64 0))) []]) (.seq (.seq (.reg false [oo_ 30 (.fa 0 (.t 3)) [],oo_ 31 (.load false 1 (.t 30)) [0],oo_ 32 (.len (.t 31)) [1],oo_ 33 (.mv (.d (.int .i64 0))) []]) (.block 2 (.loop (.seq (.reg false [oo_
 34 (.bin .lss (.t 33) (.t 32)) []]) (.seq (.cond (.t 34) .skip (.exit 2)) (.seq (.block 3 (.seq (.reg false [om_ 35 33 [],oo_ 36 (.ix 1 (.t 31) (.t 33)) [],oo_ 37 (.load false 1 (.t 36)) [1],om_ 9 35 [0,0,1,2],om_ 10 37
 [2,3,0,1,2,3]]) (.seq (.reg false [om_ 39 7 [],om_ 40 10 [],oo_ 41 (.call 165 [(.t 39),(.t 40)]) [0,1],om_ 38 41 [2],oo_ 42 (.ext (.t 38) 0) [3],oo_ 43 (.ext (.t 38) 1) [3],om_ 11 42 [4,2,0,1,2,3,4],om_ 12 43
 [5,6,0,1,2,3,4,5,6]]) (.seq (.reg false [oo_ 13 (.mv (.d (.int .u64 0))) []]) (.seq (.reg false [om_ 45 12 [],om_ 46 5 [],om_ 47 6 [],om_ 48 9 [],oo_ 49 (.bin .add (.t 47) (.t 48)) [2,3],oo_ 50 (.ix 1 (.t 46) (.t 49))
 [1,4],oo_ 51 (.load false 1 (.t 50)) [5],oo_ 52 (.call 166 [(.t 45),(.t 51),(.d (.int .u64 0))]) [0,6],om_ 44 52 [7],oo_ 53 (.ext (.t 44) 0) [8],oo_ 54 (.ext (.t 44) 1) [8],om_ 12 53 [9,7,0,1,2,3,4,5,6,7,8,9],om_ 13 54
 [10,11,0,1,2,3,4,5,6,7,8,9,10,11]]) (.seq (.reg false [om_ 55 11 [],om_ 56 13 [],oo_ 57 (.bin .add (.t 55) (.t 56)) [0,1],om_ 11 57 [2,0,1,2]]) (.seq (.reg false [om_ 59 12 [],om_ 60 8 [],oo_ 61 (.call 166 [(.t 59),(.t
 60),(.d (.int .u64 0))]) [0,1],om_ 58 61 [2],oo_ 62 (.ext (.t 58) 0) [3],oo_ 63 (.ext (.t 58) 1) [3],om_ 12 62 [4,2,0,1,2,3,4],om_ 13 63 [5,6,0,1,2,3,4,5,6]]) (.reg false [om_ 64 5 [],om_ 65 6 [],om_ 66 9 [],oo_ 67
 (.bin .add (.t 65) (.t 66)) [1,2],om_ 68 12 [],om_ 69 11 [],om_ 70 13 [],oo_ 71 (.bin .add (.t 69) (.t 70)) [5,6],oo_ 72 (.ix 1 (.t 64) (.t 67)) [0,3,0,1,2,3,4],on_ (.store 1 (.t 72) (.t 68)) [8,4,0,1,2,3,4],om_ 8 71
 [7,9,0,1,2,3,4,5,6,7,8,9]])))))))) (.reg false [oo_ 73 (.bin .add (.t 33) (.d (.int .i64 1))) [],om_ 33 73 [0]]))))))) (.reg false [om_ 74 5 [],om_ 75 6 [],oo_ 76 (.fa 0 (.t 3)) [],oo_ 77 (.load false 1 (.t 76)) [2],oo_
 78 (.len (.t 77)) [3],oo_ 79 (.bin .add (.t 75) (.t 78)) [1,4],om_ 80 8 [],oo_ 81 (.ix 1 (.t 74) (.t 79)) [0,5,0,1,2,3,4,5,6],on_ (.store 1 (.t 81) (.t 80)) [7,6,0,1,2,3,4,5,6]]))))) (.reg false [oo_ 82 (.bin .add (.t
 25) (.d (.int .i64 1))) [],om_ 25 82 [0]]))))))) (.seq (.reg false [om_ 83 5 [],oo_ 84 (.call 159 [(.t 83)]) [0],on_ (.store 1 (.t 4) (.t 84)) [1,1,0,1]]) .ret))))
theorem o_ah : fnOf Tryz.prog o_af = some (o_ag, [.cell 4 true 1], 85, false) := by kernel_rfl

abbrev o_ai : FuncId := 98
def o_aj : C := (.seq (.reg false [oo_ 1 (.box 45 (.t 0)) [],oo_ 2 (.new 45 [.nilsl,(.bool false)]) []]) (.seq (.reg false [oo_ 3 (.fa 1 (.t 1)) [],oo_ 4 (.load false 1 (.t 3)) [0],oo_ 5 (.un .not (.t 4)) [1],oo_ 6 (.fa 0 (.t 1))
 [],oo_ 7 (.load true 1 (.t 6)) [3],oo_ 8 (.call 130 [(.t 5),(.t 7)]) [2,4],on_ (.store 2 (.t 2) (.t 8)) [5,5,0,1,2,3,4,5]]) .ret))
theorem o_ak : fnOf Tryz.prog o_ai = some (o_aj, [.cell 2 true 2], 9, false) := by kernel_rfl

abbrev o_al : FuncId := 100
def o_am : C := (.seq (.reg false [oo_ 2 (.box 62 (.t 0)) [],oo_ 4 (.mv (.d (.int .i64 0))) []]) (.seq (.seq (.reg false [oo_ 8 (.load true 3 (.t 2)) [],oo_ 9 (.call 148 [(.t 8)]) [0],om_ 5 9 [1,1,0,1]]) (.seq (.reg false [om_ 10 5
 [],oo_ 11 (.bin .neq (.t 10) (.d (.int .i64 0))) [0]]) (.cond (.t 11) (.seq (.reg false [om_ 12 5 [],om_ 4 12 [0,0]]) .ret) .skip))) (.seq (.seq (.reg false [om_ 13 1 [],oo_ 14 (.len (.t 13)) [0],oo_ 15 (.mv (.d (.int
 .i64 0))) []]) (.block 0 (.loop (.seq (.reg false [oo_ 16 (.bin .lss (.t 15) (.t 14)) []]) (.seq (.cond (.t 16) .skip (.exit 0)) (.seq (.block 1 (.seq (.reg false [oo_ 17 (.ix 3 (.t 13) (.t 15)) [],oo_ 18 (.load true 3
 (.t 17)) [0],oo_ 7 (.new 64 [(.int .i64 0),(.int .i64 0),(.bool false)]) [],on_ (.store 3 (.t 7) (.t 18)) [2,1,0,1,2]]) (.seq (.reg false [oo_ 19 (.load true 3 (.t 2)) [],oo_ 20 (.load true 3 (.t 7)) [],oo_ 21 (.call 81
 [(.t 19),(.t 20)]) [0,1],oo_ 22 (.un .not (.t 21)) [2]]) (.cond (.t 22) (.seq (.reg false [oo_ 4 (.mv (.d (.int .i64 2))) []]) .ret) .skip)))) (.reg false [oo_ 23 (.bin .add (.t 15) (.d (.int .i64 1))) [],om_ 15 23
 [0]]))))))) (.seq (.reg false [oo_ 4 (.mv (.d (.int .i64 0))) []]) .ret))))
theorem o_an : fnOf Tryz.prog o_al = some (o_am, [.t 4], 24, false) := by kernel_rfl

abbrev o_ao : FuncId := 101
def o_ap : C := (.seq (.reg false [oo_ 1 (.box 62 (.t 0)) [],oo_ 2 (.new 161 [(.int .i64 0),(.int .i64 0)]) []]) (.seq (.reg false [oo_ 3 (.fa 1 (.t 1)) [],oo_ 4 (.load false 1 (.t 3)) [0],oo_ 5 (.fa 2 (.t 1)) [],oo_ 6 (.load false 1
 (.t 5)) [2],oo_ 7 (.build [(.int .i64 0),(.int .i64 0)] [(0,1,(.t 4)),(1,1,(.t 6))]) [1,3],on_ (.store 2 (.t 2) (.t 7)) [4,0,1,2,3,4]]) .ret))
theorem o_aq : fnOf Tryz.prog o_ao = some (o_ap, [.cell 2 true 2], 8, false) := by kernel_rfl

abbrev o_ar : FuncId := 103
def o_as : C := (.seq (.reg false [oo_ 1 (.box 64 (.t 0)) [],oo_ 2 (.new 159 [(.int .i64 0),(.int .i64 0),(.bool false)]) []]) (.seq (.reg false [oo_ 3 (.fa 0 (.t 1)) [],oo_ 4 (.load false 1 (.t 3)) [0],oo_ 5 (.fa 1 (.t 1)) [],oo_ 6
 (.load false 1 (.t 5)) [2],oo_ 7 (.fa 2 (.t 1)) [],oo_ 8 (.load false 1 (.t 7)) [4],oo_ 9 (.build [(.int .i64 0),(.int .i64 0),(.bool false)] [(0,1,(.t 4)),(1,1,(.t 6)),(2,1,(.t 8))]) [1,3,5],on_ (.store 3 (.t 2) (.t
 9)) [6,0,1,2,3,4,5,6]]) .ret))
theorem o_at : fnOf Tryz.prog o_ar = some (o_as, [.cell 2 true 3], 10, false) := by kernel_rfl

abbrev o_au : FuncId := 105
def o_av : C := (.seq (.reg false [oo_ 1 (.box 62 (.t 0)) [],oo_ 2 (.new 26 [(.int .i64 0),(.int .i64 0),(.int .i64 0)]) []]) (.seq (.reg false [oo_ 3 (.fa 0 (.t 1)) [],oo_ 4 (.load false 1 (.t 3)) [0],oo_ 5 (.fa 1 (.t 1)) [],oo_ 6
 (.load false 1 (.t 5)) [2],oo_ 7 (.fa 2 (.t 1)) [],oo_ 8 (.load false 1 (.t 7)) [4],oo_ 9 (.build [(.int .i64 0),(.int .i64 0),(.int .i64 0)] [(0,1,(.t 4)),(1,1,(.t 6)),(2,1,(.t 8))]) [1,3,5],on_ (.store 3 (.t 2) (.t
 9)) [6,0,1,2,3,4,5,6]]) .ret))
theorem o_aw : fnOf Tryz.prog o_au = some (o_av, [.cell 2 true 3], 10, false) := by kernel_rfl

abbrev o_ax : FuncId := 110
def o_ay : C := (.seq (.reg false [oo_ 2 (.box 45 (.t 0)) [],oo_ 3 (.box 45 (.t 1)) [],oo_ 4 (.new 45 [.nilsl,(.bool false)]) []]) (.seq (.seq (.reg false [oo_ 9 (.fa 1 (.t 2)) [],oo_ 10 (.load false 1 (.t 9)) [0],oo_ 11 (.fa 1 (.t 3))
 [],oo_ 12 (.load false 1 (.t 11)) [2],oo_ 13 (.beq false (.t 10) (.t 12)) [1,3]]) (.cond (.t 13) (.seq (.reg true [oo_ 14 (.fa 1 (.t 2)) [],oo_ 15 (.load false 1 (.t 14)) [0],oo_ 16 (.fa 0 (.t 2)) [],oo_ 17 (.load true
 1 (.t 16)) [2],oo_ 18 (.fa 0 (.t 3)) [],oo_ 19 (.load true 1 (.t 18)) [4],oo_ 20 (.call 157 [(.t 17),(.t 19)]) [3,5],oo_ 21 (.call 130 [(.t 15),(.t 20)]) [1,6,6],on_ (.store 2 (.t 4) (.t 21)) [7,7,0,1,2,3,4,5,6,7]])
 .ret) .skip)) (.seq (.seq (.reg false [oo_ 23 (.fa 0 (.t 2)) [],oo_ 24 (.load true 1 (.t 23)) [0],oo_ 25 (.fa 0 (.t 3)) [],oo_ 26 (.load true 1 (.t 25)) [2],oo_ 27 (.call 164 [(.t 24),(.t 26)]) [1,3],om_ 22 27 [4],oo_
 28 (.ext (.t 22) 0) [5],oo_ 29 (.ext (.t 22) 1) [5],oo_ 5 (.new 43 [.nilsl]) [],on_ (.store 1 (.t 5) (.t 28)) [8,6,4,0,1,2,3,4,5,6,8],om_ 6 29 [7,9,0,1,2,3,4,5,6,7,8,9]]) (.seq (.reg false [om_ 30 6 [],oo_ 31 (.bin .eql
 (.t 30) (.d (.int .i64 0))) [0]]) (.cond (.t 31) (.seq (.reg false [oo_ 32 (.fa 1 (.t 2)) [],oo_ 33 (.load false 1 (.t 32)) [0],oo_ 34 (.load true 1 (.t 5)) [],oo_ 35 (.call 130 [(.t 33),(.t 34)]) [1,2],on_ (.store 2
 (.t 4) (.t 35)) [3,3,0,1,2,3]]) .ret) .skip))) (.seq (.reg false [oo_ 37 (.fa 0 (.t 3)) [],oo_ 38 (.load true 1 (.t 37)) [0],oo_ 39 (.fa 0 (.t 2)) [],oo_ 40 (.load true 1 (.t 39)) [2],oo_ 41 (.call 164 [(.t 38),(.t
 40)]) [1,3],om_ 36 41 [4],oo_ 42 (.ext (.t 36) 0) [5],oo_ 43 (.ext (.t 36) 1) [5],oo_ 7 (.new 43 [.nilsl]) [],on_ (.store 1 (.t 7) (.t 42)) [8,6,4,0,1,2,3,4,5,6,8],om_ 8 43 [7,9,0,1,2,3,4,5,6,7,8,9]]) (.seq (.reg false
 [oo_ 44 (.fa 1 (.t 3)) [],oo_ 45 (.load false 1 (.t 44)) [0],oo_ 46 (.load true 1 (.t 7)) [],oo_ 47 (.call 130 [(.t 45),(.t 46)]) [1,2],on_ (.store 2 (.t 4) (.t 47)) [3,3,0,1,2,3]]) .ret)))))
theorem o_az : fnOf Tryz.prog o_ax = some (o_ay, [.cell 4 true 2], 48, false) := by kernel_rfl

abbrev o_b0 : FuncId := 113
def o_b1 : C := (.seq (.reg false [oo_ 4 (.box 64 (.t 1)) [],oo_ 5 (.box 47 (.t 2)) []]) (.reg true [om_ 6 0 [],oo_ 7 (.load true 3 (.t 4)) [],om_ 8 0 [],oo_ 9 (.load true 3 (.t 4)) [],oo_ 10 (.mget 1000391 [0,0,1] 3 true
 [.nilsl,(.bool false),.nilsl] (.t 8) (.t 9)) [2,3],oo_ 11 (.load true 3 (.t 5)) [],oo_ 12 (.call 46 [(.t 10),(.t 11)]) [4,5],on_ (.mput 1000391 [0,0,1] 3 true (.t 6) (.t 7) (.t 12)) [0,1,6,6,0,1,2,3,4,5,6]]))
theorem o_b2 : fnOf Tryz.prog o_b0 = some (o_b1, [], 13, false) := by kernel_rfl

abbrev o_b3 : FuncId := 115
def o_b4 : C := (.seq (.reg false [oo_ 2 (.mv (.d (.int .i64 0))) []]) (.seq (.cond (.d (.bool false)) (.seq (.reg false [om_ 3 0 [],oo_ 4 (.conv .u32 (.t 3)) [0],oo_ 5 (.call 172 [(.t 4)]) [1],om_ 2 5 [2,2,0,1,2]]) .ret) .skip) (.seq
 (.reg false [om_ 6 0 [],oo_ 7 (.call 173 [(.t 6)]) [0],om_ 2 7 [1,1,0,1]]) .ret)))
theorem o_b5 : fnOf Tryz.prog o_b3 = some (o_b4, [.t 2], 8, false) := by kernel_rfl

abbrev o_b6 : FuncId := 121
def o_b7 : C := (.seq (.reg false [oo_ 4 (.mv (.d .nilsl)) []]) (.seq (.reg false [om_ 10 0 [],oo_ 11 (.len (.t 10)) [0],om_ 12 1 [],oo_ 13 (.len (.t 12)) [2],oo_ 14 (.bin .add (.t 11) (.t 13)) [1,3],oo_ 15 (.bin .add (.t 14) (.d (.int
 .i64 1))) [4],oo_ 16 (.mksl 3 1 8 [(.int .i64 0)] (.t 15) (.t 15)) [5,5],om_ 5 16 [6,0,1,2,3,4,5,6]]) (.seq (.seq (.reg false [oo_ 6 (.mv (.d (.int .i64 0))) []]) (.block 0 (.loop (.seq (.seq (.reg false [om_ 17 6
 [],om_ 18 0 [],oo_ 19 (.len (.t 18)) [1],oo_ 20 (.bin .lss (.t 17) (.t 19)) [0,2]]) (.cond (.t 20) .skip (.exit 0))) (.seq (.block 1 (.seq (.reg false [oo_ 7 (.mv (.d (.int .i64 0))) []]) (.seq (.reg false [oo_ 8 (.mv
 (.d (.int .i64 0))) []]) (.block 2 (.loop (.seq (.seq (.reg false [om_ 23 8 [],om_ 24 1 [],oo_ 25 (.len (.t 24)) [1],oo_ 26 (.bin .lss (.t 23) (.t 25)) [0,2],om_ 27 26 [3],og_ 28 (.mv (.t 7)) 27 false [4],og_ 29 (.bin
 .gtr (.t 28) (.d (.int .i64 0))) 27 false [5,4],oo_ 30 (.pick (.t 27) (.d (.bool true)) (.t 29)) [4,6]]) (.cond (.t 30) .skip (.exit 2))) (.seq (.block 3 (.seq (.reg false [om_ 33 5 [],om_ 34 6 [],om_ 35 8 [],oo_ 36
 (.bin .add (.t 34) (.t 35)) [1,2],oo_ 37 (.ix 1 (.t 33) (.t 36)) [0,3],oo_ 38 (.load false 1 (.t 37)) [4],om_ 39 7 [],oo_ 40 (.bin .add (.t 38) (.t 39)) [5,6],om_ 9 40 [7,0,1,2,3,4,5,6,7]]) (.seq (.seq (.reg false [om_
 41 8 [],om_ 42 1 [],oo_ 43 (.len (.t 42)) [1],oo_ 44 (.bin .lss (.t 41) (.t 43)) [0,2]]) (.cond (.t 44) (.reg true [om_ 45 9 [],om_ 46 0 [],om_ 47 6 [],oo_ 48 (.ix 1 (.t 46) (.t 47)) [1,2],oo_ 49 (.load false 1 (.t 48))
 [3],om_ 50 1 [],om_ 51 8 [],oo_ 52 (.ix 1 (.t 50) (.t 51)) [5,6],oo_ 53 (.load false 1 (.t 52)) [7],oo_ 54 (.bin .mul (.t 49) (.t 53)) [4,8],oo_ 55 (.bin .add (.t 45) (.t 54)) [0,9],om_ 9 55
 [10,0,1,2,3,4,5,6,7,8,9,10]]) .skip)) (.seq (.reg false [om_ 56 5 [],om_ 57 6 [],om_ 58 8 [],oo_ 59 (.bin .add (.t 57) (.t 58)) [1,2],om_ 60 9 [],oo_ 61 (.bin .rem (.t 60) (.d (.int .i64 10000))) [4],oo_ 62 (.ix 1 (.t
 56) (.t 59)) [0,3,0,1,2,3,4,5],on_ (.store 1 (.t 62) (.t 61)) [6,5,0,1,2,3,4,5]]) (.reg false [om_ 63 9 [],oo_ 64 (.bin .quo (.t 63) (.d (.int .i64 10000))) [0],om_ 7 64 [1,0,1]]))))) (.reg false [om_ 31 8 [],oo_ 32
 (.bin .add (.t 31) (.d (.int .i64 1))) [0],om_ 8 32 [1,0,1]])))))))) (.reg false [om_ 21 6 [],oo_ 22 (.bin .add (.t 21) (.d (.int .i64 1))) [0],om_ 6 22 [1,0,1]])))))) (.seq (.reg false [om_ 65 5 [],oo_ 66 (.call 176
 [(.t 65)]) [0],om_ 4 66 [1,1,0,1]]) .ret))))
theorem o_b8 : fnOf Tryz.prog o_b6 = some (o_b7, [.t 4], 67, false) := by kernel_rfl

abbrev o_b9 : FuncId := 128
def o_ba : C := (.seq (.reg false [oo_ 1 (.box 45 (.t 0)) [],oo_ 2 (.new 43 [.nilsl]) []]) (.seq (.reg false [oo_ 3 (.fa 0 (.t 1)) [],oo_ 4 (.load true 1 (.t 3)) [0],on_ (.store 1 (.t 2) (.t 4)) [1,0,1]]) .ret))
theorem o_bb : fnOf Tryz.prog o_b9 = some (o_ba, [.cell 2 true 1], 5, false) := by kernel_rfl

abbrev o_bc : FuncId := 129
def o_bd : C := (.seq (.reg false [oo_ 1 (.box 43 (.t 0)) [],oo_ 2 (.mv (.d (.bool false))) []]) (.seq (.reg false [oo_ 3 (.fa 0 (.t 1)) [],oo_ 4 (.load false 1 (.t 3)) [0],oo_ 5 (.len (.t 4)) [1],oo_ 6 (.bin .eql (.t 5) (.d (.int .i64
 0))) [2],om_ 2 6 [3,0,1,2,3]]) .ret))
theorem o_be : fnOf Tryz.prog o_bc = some (o_bd, [.t 2], 7, false) := by kernel_rfl

abbrev o_bf : FuncId := 130
def o_bg : C := (.seq (.reg false [oo_ 3 (.box 43 (.t 1)) [],oo_ 4 (.new 45 [.nilsl,(.bool false)]) []]) (.seq (.reg true [oo_ 5 (.load true 1 (.t 3)) [],om_ 6 0 [],om_ 7 6 [1],og_ 8 (.load true 1 (.t 3)) 7 true [2],og_ 9 (.call 129
 [(.t 8)]) 7 true [3,2,2],og_ 10 (.un .not (.t 9)) 7 true [4,2],oo_ 11 (.pick (.t 7) (.t 10) (.d (.bool false))) [2,5],oo_ 12 (.build [.nilsl,(.bool false)] [(0,1,(.t 5)),(1,1,(.t 11))]) [0,6],on_ (.store 2 (.t 4) (.t
 12)) [7,4,0,1,2,3,4,5,6,7]]) .ret))
theorem o_bh : fnOf Tryz.prog o_bf = some (o_bg, [.cell 4 true 2], 13, false) := by kernel_rfl

abbrev o_bi : FuncId := 131
def o_bj : C := (.seq (.reg false [oo_ 1 (.box 45 (.t 0)) [],oo_ 2 (.mv (.d (.bool false))) []]) (.seq (.reg false [oo_ 3 (.fa 1 (.t 1)) [],oo_ 4 (.load false 1 (.t 3)) [0],om_ 2 4 [1,0,1]]) .ret))
theorem o_bk : fnOf Tryz.prog o_bi = some (o_bj, [.t 2], 5, false) := by kernel_rfl

abbrev o_bl : FuncId := 132
def o_bm : C := (.seq (.reg false [oo_ 2 (.new 43 [.nilsl]) []]) (.seq (.reg false [om_ 3 0 [],oo_ 4 (.call 182 [(.t 3)]) [0],oo_ 5 (.call 159 [(.t 4)]) [1,1],on_ (.store 1 (.t 2) (.t 5)) [2,2,0,1,2]]) .ret))
theorem o_bn : fnOf Tryz.prog o_bl = some (o_bm, [.cell 2 true 1], 6, false) := by kernel_rfl

abbrev o_bo : FuncId := 139
def o_bp : C := (.seq (.reg false [oo_ 3 (.box 47 (.t 0)) [],oo_ 4 (.box 64 (.t 1)) [],oo_ 5 (.box 64 (.t 2)) [],oo_ 6 (.mv .bad) []]) (.seq (.reg false [oo_ 8 (.mkm 1000391) [],om_ 7 8 [0,0]]) (.seq (.reg false [om_ 9 7 [],oo_ 10
 (.load true 3 (.t 4)) [],oo_ 11 (.load true 3 (.t 3)) [],oo_ 12 (.call 113 [(.t 9),(.t 10),(.t 11)]) [0,1,2]]) (.seq (.reg true [om_ 13 7 [],oo_ 14 (.load true 3 (.t 5)) [],oo_ 15 (.call 35 [(.d (.int .i64 1))]) [],oo_
 16 (.load true 3 (.t 3)) [],oo_ 17 (.call 40 [(.t 15),(.t 16)]) [2,3,2],oo_ 18 (.call 113 [(.t 13),(.t 14),(.t 17)]) [0,1,4,4]]) (.seq (.reg false [om_ 19 7 [],om_ 6 19 [0,0]]) .ret)))))
theorem o_bq : fnOf Tryz.prog o_bo = some (o_bp, [.t 6], 20, false) := by kernel_rfl

abbrev o_br : FuncId := 140
def o_bs : C := (.seq (.reg false [oo_ 2 (.new 47 [.nilsl,(.bool false),.nilsl]) []]) (.seq (.reg false [om_ 6 0 [],oo_ 7 (.call 184 [(.t 6)]) [0],om_ 5 7 [1],oo_ 8 (.ext (.t 5) 0) [2],oo_ 9 (.ext (.t 5) 1) [2],oo_ 3 (.new 47
 [.nilsl,(.bool false),.nilsl]) [],on_ (.store 3 (.t 3) (.t 8)) [5,3,1,0,1,2,3,5],om_ 4 9 [4,6,0,1,2,3,4,5,6]]) (.seq (.reg false [oo_ 10 (.load true 3 (.t 3)) [],on_ (.store 3 (.t 2) (.t 10)) [0,0]]) .ret)))
theorem o_bt : fnOf Tryz.prog o_br = some (o_bs, [.cell 2 true 3], 11, false) := by kernel_rfl

abbrev o_bu : FuncId := 141
def o_bv : C := (.seq (.reg false [oo_ 2 (.box 64 (.t 0)) [],oo_ 3 (.mv .bad) []]) (.seq (.reg false [oo_ 4 (.load true 3 (.t 1)) [],oo_ 5 (.load true 3 (.t 2)) [],oo_ 6 (.call 142 [(.t 4),(.t 5)]) [0,1],om_ 3 6 [2,2,0,1,2]]) .ret))
theorem o_bw : fnOf Tryz.prog o_bu = some (o_bv, [.t 3], 7, false) := by kernel_rfl

abbrev o_bx : FuncId := 142
def o_by : C := (.seq (.reg false [oo_ 2 (.box 62 (.t 0)) [],oo_ 3 (.box 64 (.t 1)) [],oo_ 4 (.mv .bad) []]) (.seq (.block 0 (.seq (.reg false [oo_ 6 (.fa 0 (.t 3)) [],oo_ 7 (.load false 1 (.t 6)) [0],oo_ 8 (.fa 1 (.t 2)) [],oo_ 9
 (.load false 1 (.t 8)) [2],oo_ 10 (.bin .leq (.t 7) (.t 9)) [1,3],om_ 5 10 [4]]) (.cond (.t 5) (.seq (.reg false [oo_ 11 (.load true 3 (.t 3)) [],oo_ 12 (.call 74 [(.t 11)]) [0],om_ 4 12 [1,1,0,1]]) .ret) (.seq (.reg
 false [oo_ 14 (.fa 1 (.t 3)) [],oo_ 15 (.load false 1 (.t 14)) [0],oo_ 16 (.fa 2 (.t 2)) [],oo_ 17 (.load false 1 (.t 16)) [2],oo_ 18 (.bin .eql (.t 15) (.t 17)) [1,3],om_ 13 18 [4]]) (.cond (.t 13) (.seq (.reg false
 [oo_ 19 (.fa 1 (.t 2)) [],oo_ 20 (.load false 1 (.t 19)) [0],oo_ 21 (.fa 1 (.t 3)) [],oo_ 22 (.load false 1 (.t 21)) [2],oo_ 23 (.build [(.int .i64 0),(.int .i64 0),(.bool false)] [(0,1,(.t 20)),(1,1,(.t 22)),(2,1,(.d
 (.bool true)))]) [1,3],oo_ 24 (.call 74 [(.t 23)]) [4],om_ 4 24 [5,5,0,1,2,3,4,5]]) .ret) .skip))))) (.seq (.reg false [oo_ 25 (.load true 3 (.t 3)) [],oo_ 26 (.call 185 [(.t 25)]) [0],oo_ 27 (.mkf (.func 186) [(.t 2)])
 [],oo_ 28 (.call 75 [(.t 26),(.t 27)]) [1,2,1],om_ 4 28 [3,3,0,1,2,3]]) .ret)))
theorem o_bz : fnOf Tryz.prog o_bx = some (o_by, [.t 4], 29, false) := by kernel_rfl

abbrev o_c0 : FuncId := 143
def o_c1 : C := (.seq (.reg false [oo_ 1 (.box 62 (.t 0)) [],oo_ 2 (.new 26 [(.int .i64 0),(.int .i64 0),(.int .i64 0)]) []]) (.seq (.reg false [oo_ 3 (.fa 0 (.t 1)) [],oo_ 4 (.load false 1 (.t 3)) [0],oo_ 5 (.fa 1 (.t 1)) [],oo_ 6
 (.load false 1 (.t 5)) [2],oo_ 7 (.fa 2 (.t 1)) [],oo_ 8 (.load false 1 (.t 7)) [4],oo_ 9 (.build [(.int .i64 0),(.int .i64 0),(.int .i64 0)] [(0,1,(.t 4)),(1,1,(.t 6)),(2,1,(.t 8))]) [1,3,5],on_ (.store 3 (.t 2) (.t
 9)) [6,0,1,2,3,4,5,6]]) .ret))
theorem o_c2 : fnOf Tryz.prog o_c0 = some (o_c1, [.cell 2 true 3], 10, false) := by kernel_rfl

abbrev o_c3 : FuncId := 144
def o_c4 : C := (.seq (.reg false [oo_ 2 (.box 26 (.t 0)) [],oo_ 4 (.new 47 [.nilsl,(.bool false),.nilsl]) [],oo_ 5 (.mv (.d (.int .i64 0))) []]) (.seq (.seq (.reg false [oo_ 7 (.load true 3 (.t 2)) [],om_ 8 1 [],oo_ 9 (.bsl 3 1 1
 [(.int .i64 0)] [(0,1,(.t 8))]) [1],oo_ 10 (.call 55 [(.t 7),(.t 9)]) [0,2],om_ 6 10 [3,3,0,1,2,3]]) (.seq (.reg false [om_ 11 6 [],oo_ 12 (.bin .neq (.t 11) (.d (.int .i64 0))) [0],om_ 13 12 [1],og_ 14 (.mv (.t 1)) 13
 false [2],og_ 15 (.load true 3 (.t 2)) 13 false [2],og_ 16 (.call 53 [(.t 15)]) 13 false [4,2,2],og_ 17 (.bin .eql (.t 14) (.t 16)) 13 false [3,5,2],oo_ 18 (.pick (.t 13) (.d (.bool true)) (.t 17)) [2,6]]) (.cond (.t
 18) (.seq (.reg false [oo_ 19 (.build [.nilsl,(.bool false),.nilsl] []) [],om_ 20 6 [],on_ (.store 3 (.t 4) (.t 19)) [0,0],om_ 5 20 [1,2,0,1,2]]) .ret) .skip))) (.seq (.reg false [oo_ 21 (.load true 3 (.t 2)) [],oo_ 22
 (.call 56 [(.t 21)]) [0],om_ 23 1 [],oo_ 24 (.inv (.t 22) "tallymark/chain.chance" [(.t 23)]) [1,2,1],oo_ 25 (.ext (.t 24) 0) [3],oo_ 26 (.ext (.t 24) 1) [3],on_ (.store 3 (.t 4) (.t 25)) [4,3,0,1,2,3,4,5],om_ 5 26
 [5,6,0,1,2,3,4,5,6]]) .ret)))
theorem o_c5 : fnOf Tryz.prog o_c3 = some (o_c4, [.cell 4 true 3, .t 5], 27, false) := by kernel_rfl

abbrev o_c6 : FuncId := 145
def o_c7 : C := (.seq (.reg false [oo_ 3 (.box 62 (.t 0)) [],oo_ 4 (.box 64 (.t 1)) [],oo_ 5 (.box 47 (.t 2)) [],oo_ 6 (.mv .bad) []]) (.seq (.seq (.reg true [oo_ 8 (.fa 0 (.t 4)) [],oo_ 9 (.load false 1 (.t 8)) [0],oo_ 10 (.load true
 3 (.t 3)) [],oo_ 11 (.call 143 [(.t 10)]) [2],oo_ 12 (.call 53 [(.t 11)]) [3,3],oo_ 13 (.bin .eql (.t 9) (.t 12)) [1,4]]) (.cond (.t 13) (.seq (.reg false [oo_ 14 (.fa 2 (.t 4)) [],on_ (.store 1 (.t 14) (.d (.bool
 true))) [0]]) (.seq (.reg false [oo_ 15 (.load true 3 (.t 4)) [],oo_ 16 (.call 74 [(.t 15)]) [0],om_ 6 16 [1,1,0,1]]) .ret)) .skip)) (.seq (.reg false [oo_ 17 (.load true 3 (.t 4)) [],oo_ 7 (.new 64 [(.int .i64 0),(.int
 .i64 0),(.bool false)]) [],on_ (.store 3 (.t 7) (.t 17)) [1,0,0,1]]) (.seq (.reg false [oo_ 18 (.fa 0 (.t 7)) [],oo_ 19 (.load false 1 (.t 18)) [0],oo_ 20 (.bin .add (.t 19) (.d (.int .i64 1))) [1],oo_ 21 (.fa 0 (.t 7))
 [0,1,2],on_ (.store 1 (.t 21) (.t 20)) [3,2,0,1,2]]) (.seq (.reg false [oo_ 22 (.load true 3 (.t 5)) [],oo_ 23 (.load true 3 (.t 7)) [],oo_ 24 (.load true 3 (.t 4)) [],oo_ 25 (.call 139 [(.t 22),(.t 23),(.t 24)])
 [0,1,2],om_ 6 25 [3,3,0,1,2,3]]) .ret)))))
theorem o_c8 : fnOf Tryz.prog o_c6 = some (o_c7, [.t 6], 26, false) := by kernel_rfl

abbrev o_c9 : FuncId := 146
abbrev o_ca : FuncId := 147
def o_cb : C := (.seq (.reg false [oo_ 2 (.box 75 (.t 0)) [],oo_ 3 (.box 75 (.t 1)) [],oo_ 4 (.mv (.d (.int .i64 0))) []]) (.seq (.reg true [oo_ 7 (.fa 0 (.t 2)) [],oo_ 8 (.load true 3 (.t 7)) [0],oo_ 9 (.fa 0 (.t 3)) [],oo_ 10 (.load
 true 3 (.t 9)) [2],oo_ 5 (.new 64 [(.int .i64 0),(.int .i64 0),(.bool false)]) [],oo_ 6 (.new 64 [(.int .i64 0),(.int .i64 0),(.bool false)]) [],on_ (.store 3 (.t 5) (.t 8)) [4,1,0,1,4,5],on_ (.store 3 (.t 6) (.t 10))
 [5,3,6,0,1,2,3,4,5,6]]) (.seq (.reg true [oo_ 11 (.fa 0 (.t 5)) [],oo_ 12 (.load false 1 (.t 11)) [0],oo_ 13 (.fa 0 (.t 6)) [],oo_ 14 (.load false 1 (.t 13)) [2],oo_ 15 (.call 189 [(.t 12),(.t 14)]) [1,3],oo_ 16 (.fa 1
 (.t 5)) [],oo_ 17 (.load false 1 (.t 16)) [5],oo_ 18 (.fa 1 (.t 6)) [],oo_ 19 (.load false 1 (.t 18)) [7],oo_ 20 (.call 189 [(.t 17),(.t 19)]) [6,8,4],oo_ 21 (.fa 2 (.t 5)) [],oo_ 22 (.load false 1 (.t 21)) [10],oo_ 23
 (.call 190 [(.t 22)]) [11,9],oo_ 24 (.fa 2 (.t 6)) [],oo_ 25 (.load false 1 (.t 24)) [13],oo_ 26 (.call 190 [(.t 25)]) [14,12],oo_ 27 (.call 189 [(.t 23),(.t 26)]) [12,15,15],oo_ 28 (.bsl 3 1 3 [(.int .i64 0),(.int .i64
 0),(.int .i64 0)] [(0,1,(.t 15)),(1,1,(.t 20)),(2,1,(.t 27))]) [4,9,16],oo_ 29 (.call 188 [(.t 28)]) [17,16],om_ 4 29 [18,18,0,1,2,3,4,5,6,7,8,9,10,11,12,13,14,15,16,17,18]]) .ret)))
theorem o_cc : fnOf Tryz.prog o_ca = some (o_cb, [.t 4], 30, false) := by kernel_rfl

abbrev o_cd : FuncId := 148
def o_ce : C := (.seq (.reg false [oo_ 1 (.box 62 (.t 0)) [],oo_ 2 (.mv (.d (.int .i64 0))) []]) (.seq (.seq (.reg false [oo_ 3 (.fa 0 (.t 1)) [],oo_ 4 (.load false 1 (.t 3)) [0],oo_ 5 (.bin .eql (.t 4) (.d (.int .i64 4))) [1]]) (.cond
 (.t 5) (.seq (.reg false [oo_ 6 (.load true 3 (.t 1)) [],oo_ 7 (.call 101 [(.t 6)]) [0],oo_ 8 (.call 191 [(.t 7)]) [1,1],om_ 2 8 [2,2,0,1,2]]) .ret) .skip)) (.seq (.reg false [oo_ 9 (.load true 3 (.t 1)) [],oo_ 10
 (.call 105 [(.t 9)]) [0],oo_ 11 (.call 52 [(.t 10)]) [1,1],om_ 2 11 [2,2,0,1,2]]) .ret)))
theorem o_cf : fnOf Tryz.prog o_cd = some (o_ce, [.t 2], 12, false) := by kernel_rfl

abbrev o_cg : FuncId := 149
def o_ch : C := (.seq (.reg false [oo_ 4 (.mv (.d (.bool false))) []]) (.seq (.reg false [om_ 5 0 [],om_ 6 1 [],oo_ 7 (.call 192 [(.t 5),(.t 6)]) [0,1],oo_ 8 (.bin .geq (.t 7) (.d (.int .i64 0))) [2],om_ 4 8 [3,2,0,1,2,3]]) .ret))
theorem o_ci : fnOf Tryz.prog o_cg = some (o_ch, [.t 4], 9, false) := by kernel_rfl

abbrev o_cj : FuncId := 150
def o_ck : C := (.seq (.reg false [oo_ 2 (.box 64 (.t 0)) [],oo_ 3 (.mv (.d (.bool false))) []]) (.seq (.reg false [oo_ 4 (.load true 3 (.t 1)) [],oo_ 5 (.load true 3 (.t 2)) [],oo_ 6 (.call 81 [(.t 4),(.t 5)]) [0,1],oo_ 7 (.un .not
 (.t 6)) [2],om_ 3 7 [3,2,0,1,2,3]]) .ret))
theorem o_cl : fnOf Tryz.prog o_cj = some (o_ck, [.t 3], 8, false) := by kernel_rfl

abbrev o_cm : FuncId := 154
def o_cn : C := (.seq (.reg false [oo_ 2 (.box 161 (.t 0)) [],oo_ 3 (.box 159 (.t 1)) [],oo_ 4 (.mv (.d (.bool false))) []]) (.seq (.reg false [oo_ 6 (.fa 0 (.t 3)) [],oo_ 7 (.load false 1 (.t 6)) [0],oo_ 8 (.bin .geq (.t 7) (.d (.int
 .i64 0))) [1],om_ 9 8 [2],og_ 10 (.fa 0 (.t 3)) 9 true [3],og_ 11 (.load false 1 (.t 10)) 9 true [4,3],og_ 12 (.fa 0 (.t 2)) 9 true [3],og_ 13 (.load false 1 (.t 12)) 9 true [6,3],og_ 14 (.bin .leq (.t 11) (.t 13)) 9
 true [5,7,3],oo_ 15 (.pick (.t 9) (.t 14) (.d (.bool false))) [3,8],om_ 16 15 [9,3],og_ 17 (.fa 1 (.t 3)) 16 true [10],og_ 18 (.load false 1 (.t 17)) 16 true [11,10],og_ 19 (.bin .geq (.t 18) (.d (.int .i64 0))) 16 true
 [12,10],oo_ 20 (.pick (.t 16) (.t 19) (.d (.bool false))) [10,13],om_ 21 20 [14,10],og_ 22 (.fa 1 (.t 3)) 21 true [15],og_ 23 (.load false 1 (.t 22)) 21 true [16,15],og_ 24 (.fa 1 (.t 2)) 21 true [15],og_ 25 (.load
 false 1 (.t 24)) 21 true [18,15],og_ 26 (.bin .leq (.t 23) (.t 25)) 21 true [17,19,15],oo_ 27 (.pick (.t 21) (.t 26) (.d (.bool false))) [15,20],om_ 5 27 [21,15,0,1,2,3,4,5,6,7,8,9,10,11,12,13,14,15,16,17,18,19,20,21]])
 (.seq (.reg false [oo_ 28 (.load true 2 (.t 2)) [],oo_ 29 (.call 191 [(.t 28)]) [0],oo_ 30 (.bin .eql (.t 29) (.d (.int .i64 0))) [1],om_ 31 30 [2,1],og_ 32 (.mv (.t 5)) 31 true [3],oo_ 33 (.pick (.t 31) (.t 32) (.d
 (.bool false))) [3,4],om_ 34 33 [5,3],og_ 35 (.fa 2 (.t 3)) 34 true [6],og_ 36 (.load false 1 (.t 35)) 34 true [7,6],og_ 37 (.un .not (.t 36)) 34 true [8,6],og_ 38 (.mv (.t 37)) 34 true [9,6,6],og_ 39 (.fa 1 (.t 3)) 38
 false [10],og_ 40 (.load false 1 (.t 39)) 38 false [11,10],og_ 41 (.fa 1 (.t 2)) 38 false [10],og_ 42 (.load false 1 (.t 41)) 38 false [13,10],og_ 43 (.bin .eql (.t 40) (.t 42)) 38 false [12,14,10],og_ 44 (.pick (.t 38)
 (.d (.bool true)) (.t 43)) 34 true [10,15,6],oo_ 45 (.pick (.t 34) (.t 44) (.d (.bool false))) [6,16],om_ 4 45 [17,10,0,1,2,3,4,5,6,7,8,9,10,11,12,13,14,15,16,17]]) .ret)))
theorem o_co : fnOf Tryz.prog o_cm = some (o_cn, [.t 4], 46, false) := by kernel_rfl

abbrev o_cp : FuncId := 155
def o_cq : C := (.seq (.reg false [oo_ 2 (.box 43 (.t 0)) [],oo_ 3 (.box 43 (.t 1)) [],oo_ 4 (.mv (.d (.int .i64 0))) []]) (.seq (.seq (.reg false [oo_ 9 (.fa 0 (.t 2)) [],oo_ 10 (.load false 1 (.t 9)) [0],oo_ 11 (.len (.t 10)) [1],oo_
 12 (.fa 0 (.t 3)) [],oo_ 13 (.load false 1 (.t 12)) [3],oo_ 14 (.len (.t 13)) [4],oo_ 15 (.bin .sub (.t 11) (.t 14)) [2,5],om_ 5 15 [6,0,1,2,3,4,5,6]]) (.seq (.reg false [om_ 16 5 [],oo_ 17 (.bin .neq (.t 16) (.d (.int
 .i64 0))) [0]]) (.cond (.t 17) (.seq (.reg false [om_ 18 5 [],oo_ 19 (.mm false [(.t 18),(.d (.int .i64 1))]) [0],oo_ 20 (.mm true [(.d (.int .i64 (-1))),(.t 19)]) [1],om_ 4 20 [2,0,1,2]]) .ret) .skip))) (.seq (.seq
 (.reg false [oo_ 21 (.fa 0 (.t 2)) [],oo_ 22 (.load false 1 (.t 21)) [0],oo_ 23 (.len (.t 22)) [1],oo_ 24 (.bin .sub (.t 23) (.d (.int .i64 1))) [2],om_ 6 24 [3,0,1,2,3]]) (.block 0 (.loop (.seq (.seq (.reg false [om_
 25 6 [],oo_ 26 (.bin .geq (.t 25) (.d (.int .i64 0))) [0]]) (.cond (.t 26) .skip (.exit 0))) (.seq (.block 1 (.seq (.reg true [oo_ 29 (.fa 0 (.t 2)) [],oo_ 30 (.load false 1 (.t 29)) [0],om_ 31 6 [],oo_ 32 (.ix 1 (.t
 30) (.t 31)) [1,2],oo_ 33 (.load false 1 (.t 32)) [3],oo_ 34 (.fa 0 (.t 3)) [],oo_ 35 (.load false 1 (.t 34)) [5],om_ 36 6 [],oo_ 37 (.ix 1 (.t 35) (.t 36)) [6,7],oo_ 38 (.load false 1 (.t 37)) [8],om_ 7 33
 [4,0,1,2,3,4],om_ 8 38 [9,10,0,1,2,3,4,5,6,7,8,9,10]]) (.block 2 (.seq (.reg false [om_ 40 7 [],om_ 41 8 [],oo_ 42 (.bin .lss (.t 40) (.t 41)) [0,1],om_ 39 42 [2]]) (.cond (.t 39) (.seq (.reg false [oo_ 4 (.mv (.d (.int
 .i64 (-1)))) []]) .ret) (.seq (.reg false [om_ 44 7 [],om_ 45 8 [],oo_ 46 (.bin .gtr (.t 44) (.t 45)) [0,1],om_ 43 46 [2]]) (.cond (.t 43) (.seq (.reg false [oo_ 4 (.mv (.d (.int .i64 1))) []]) .ret) .skip))))))) (.reg
 false [om_ 27 6 [],oo_ 28 (.bin .sub (.t 27) (.d (.int .i64 1))) [0],om_ 6 28 [1,0,1]])))))) (.seq (.reg false [oo_ 4 (.mv (.d (.int .i64 0))) []]) .ret))))
theorem o_cr : fnOf Tryz.prog o_cp = some (o_cq, [.t 4], 47, false) := by kernel_rfl

abbrev o_cs : FuncId := 156
def o_ct : C := (.seq (.reg false [oo_ 2 (.box 62 (.t 0)) [],oo_ 3 (.box 64 (.t 1)) [],oo_ 4 (.new 47 [.nilsl,(.bool false),.nilsl]) [],oo_ 5 (.mv (.d (.int .i64 0))) []]) (.seq (.seq (.reg false [oo_ 9 (.load true 3 (.t 2)) [],oo_ 10
 (.load true 3 (.t 3)) [],oo_ 11 (.bsl 64 3 1 [(.int .i64 0),(.int .i64 0),(.bool false)] [(0,3,(.t 10))]) [1],oo_ 12 (.call 100 [(.t 9),(.t 11)]) [0,2],om_ 6 12 [3,3,0,1,2,3]]) (.seq (.reg false [om_ 13 6 [],oo_ 14
 (.bin .neq (.t 13) (.d (.int .i64 0))) [0]]) (.cond (.t 14) (.seq (.reg false [oo_ 15 (.build [.nilsl,(.bool false),.nilsl] []) [],om_ 16 6 [],on_ (.store 3 (.t 4) (.t 15)) [0,0],om_ 5 16 [1,2,0,1,2]]) .ret) .skip)))
 (.seq (.seq (.reg false [oo_ 17 (.fa 0 (.t 2)) [],oo_ 18 (.load false 1 (.t 17)) [0],oo_ 19 (.bin .eql (.t 18) (.d (.int .i64 4))) [1]]) (.cond (.t 19) (.seq (.reg true [oo_ 21 (.load true 3 (.t 2)) [],oo_ 22 (.call 101
 [(.t 21)]) [0],oo_ 23 (.load true 3 (.t 3)) [],oo_ 24 (.call 103 [(.t 23)]) [2,1],oo_ 25 (.call 196 [(.t 22),(.t 24)]) [1,3,3],om_ 20 25 [4],oo_ 26 (.ext (.t 20) 0) [5],oo_ 27 (.ext (.t 20) 1) [5],oo_ 7 (.new 43
 [.nilsl]) [],on_ (.store 1 (.t 7) (.t 26)) [8,6,4,0,1,2,3,4,5,6,8],om_ 8 27 [7,9,0,1,2,3,4,5,6,7,8,9]]) (.seq (.reg false [oo_ 28 (.load true 1 (.t 7)) [],oo_ 29 (.call 197 [(.t 28)]) [0],om_ 30 8 [],on_ (.store 3 (.t
 4) (.t 29)) [1,1,0,1],om_ 5 30 [2,3,0,1,2,3]]) .ret)) .skip)) (.seq (.reg true [oo_ 31 (.load true 3 (.t 2)) [],oo_ 32 (.call 105 [(.t 31)]) [0],oo_ 33 (.fa 0 (.t 3)) [],oo_ 34 (.load false 1 (.t 33)) [2],oo_ 35 (.call
 198 [(.t 32),(.t 34)]) [1,3,1],oo_ 36 (.ext (.t 35) 0) [4],oo_ 37 (.ext (.t 35) 1) [4],on_ (.store 3 (.t 4) (.t 36)) [5,4,0,1,2,3,4,5,6],om_ 5 37 [6,7,0,1,2,3,4,5,6,7]]) .ret))))
theorem o_cu : fnOf Tryz.prog o_cs = some (o_ct, [.cell 4 true 3, .t 5], 38, false) := by kernel_rfl

abbrev o_cv : FuncId := 157
def o_cw : C := (.seq (.reg false [oo_ 2 (.box 43 (.t 0)) [],oo_ 3 (.box 43 (.t 1)) [],oo_ 4 (.new 43 [.nilsl]) []]) (.seq (.seq (.reg false [oo_ 10 (.fa 0 (.t 2)) [],oo_ 11 (.load false 1 (.t 10)) [0],oo_ 12 (.len (.t 11)) [1],oo_ 13
 (.fa 0 (.t 3)) [],oo_ 14 (.load false 1 (.t 13)) [3],oo_ 15 (.len (.t 14)) [4],oo_ 16 (.bin .lss (.t 12) (.t 15)) [2,5]]) (.cond (.t 16) (.reg false [oo_ 17 (.load true 1 (.t 3)) [],oo_ 18 (.load true 1 (.t 2)) [],on_
 (.store 1 (.t 2) (.t 17)) [0,0,1],on_ (.store 1 (.t 3) (.t 18)) [1,2,0,1,2]]) .skip)) (.seq (.reg false [oo_ 19 (.fa 0 (.t 2)) [],oo_ 20 (.load false 1 (.t 19)) [0],oo_ 21 (.len (.t 20)) [1],oo_ 22 (.bin .add (.t 21)
 (.d (.int .i64 1))) [2],oo_ 23 (.mksl 199 1 8 [(.int .u64 0)] (.t 22) (.t 22)) [3,3],om_ 5 23 [4,0,1,2,3,4]]) (.seq (.reg false [oo_ 6 (.mv (.d (.int .u64 0))) []]) (.seq (.seq (.reg false [oo_ 24 (.fa 0 (.t 2)) [],oo_
 25 (.load false 1 (.t 24)) [0],oo_ 26 (.len (.t 25)) [1],oo_ 27 (.mv (.d (.int .i64 0))) []]) (.block 0 (.loop (.seq (.reg false [oo_ 28 (.bin .lss (.t 27) (.t 26)) []]) (.seq (.cond (.t 28) .skip (.exit 0)) (.seq
 (.block 1 (.seq (.reg false [om_ 29 27 [],oo_ 30 (.ix 1 (.t 25) (.t 27)) [],oo_ 31 (.load false 1 (.t 30)) [1],om_ 7 29 [0,0,1,2],om_ 8 31 [2,3,0,1,2,3]]) (.seq (.reg false [oo_ 9 (.mv (.d (.int .u64 0))) []]) (.seq
 (.seq (.reg false [om_ 32 7 [],oo_ 33 (.fa 0 (.t 3)) [],oo_ 34 (.load false 1 (.t 33)) [1],oo_ 35 (.len (.t 34)) [2],oo_ 36 (.bin .lss (.t 32) (.t 35)) [0,3]]) (.cond (.t 36) (.reg false [oo_ 37 (.fa 0 (.t 3)) [],oo_ 38
 (.load false 1 (.t 37)) [0],om_ 39 7 [],oo_ 40 (.ix 1 (.t 38) (.t 39)) [1,2],oo_ 41 (.load false 1 (.t 40)) [3],om_ 9 41 [4,0,1,2,3,4]]) .skip)) (.reg false [om_ 43 5 [],om_ 44 7 [],om_ 45 8 [],om_ 46 9 [],om_ 47 6
 [],oo_ 48 (.call 166 [(.t 45),(.t 46),(.t 47)]) [2,3,4],om_ 42 48 [5],oo_ 49 (.ext (.t 42) 0) [6],oo_ 50 (.ext (.t 42) 1) [6],oo_ 51 (.ix 1 (.t 43) (.t 44)) [0,1,0,1,2,3,4,5,6,7],on_ (.store 1 (.t 51) (.t 49))
 [9,7,5,0,1,2,3,4,5,6,7],om_ 6 50 [8,10,0,1,2,3,4,5,6,7,8,9,10]]))))) (.reg false [oo_ 52 (.bin .add (.t 27) (.d (.int .i64 1))) [],om_ 27 52 [0]]))))))) (.seq (.reg false [om_ 53 5 [],oo_ 54 (.fa 0 (.t 2)) [],oo_ 55
 (.load false 1 (.t 54)) [1],oo_ 56 (.len (.t 55)) [2],om_ 57 6 [],oo_ 58 (.ix 1 (.t 53) (.t 56)) [0,3,0,1,2,3,4],on_ (.store 1 (.t 58) (.t 57)) [5,4,0,1,2,3,4]]) (.seq (.reg false [om_ 59 5 [],oo_ 60 (.call 159 [(.t
 59)]) [0],on_ (.store 1 (.t 4) (.t 60)) [1,1,0,1]]) .ret)))))))
theorem o_cx : fnOf Tryz.prog o_cv = some (o_cw, [.cell 4 true 1], 61, false) := by kernel_rfl

abbrev o_cy : FuncId := 158
def o_cz : C := (.seq (.reg false [oo_ 4 (.mv (.d .nilsl)) [],oo_ 5 (.mv (.d (.int .u64 0))) [0]]) (.seq (.reg false [om_ 9 0 [],oo_ 10 (.len (.t 9)) [0],oo_ 11 (.mksl 199 1 8 [(.int .u64 0)] (.t 10) (.t 10)) [1,1],om_ 6 11 [2,0,1,2]])
 (.seq (.reg false [oo_ 7 (.mv (.d (.int .u64 0))) []]) (.seq (.seq (.reg false [om_ 12 0 [],oo_ 13 (.len (.t 12)) [0],oo_ 14 (.bin .sub (.t 13) (.d (.int .i64 1))) [1],om_ 8 14 [2,0,1,2]]) (.block 0 (.loop (.seq (.seq
 (.reg false [om_ 15 8 [],oo_ 16 (.bin .geq (.t 15) (.d (.int .i64 0))) [0]]) (.cond (.t 16) .skip (.exit 0))) (.seq (.block 1 (.reg false [om_ 20 6 [],om_ 21 8 [],om_ 22 7 [],om_ 23 0 [],om_ 24 8 [],oo_ 25 (.ix 1 (.t
 23) (.t 24)) [3,4],oo_ 26 (.load false 1 (.t 25)) [5],om_ 27 1 [],oo_ 28 (.call 199 [(.t 22),(.t 26),(.t 27)]) [2,6,7],om_ 19 28 [8],oo_ 29 (.ext (.t 19) 0) [9],oo_ 30 (.ext (.t 19) 1) [9],oo_ 31 (.ix 1 (.t 20) (.t 21))
 [0,1,0,1,2,3,4,5,6,7,8,9,10],on_ (.store 1 (.t 31) (.t 29)) [12,10,8,0,1,2,3,4,5,6,7,8,9,10],om_ 7 30 [11,13,0,1,2,3,4,5,6,7,8,9,10,11,12,13]])) (.reg false [om_ 17 8 [],oo_ 18 (.bin .sub (.t 17) (.d (.int .i64 1)))
 [0],om_ 8 18 [1,0,1]])))))) (.seq (.reg false [om_ 32 6 [],om_ 33 7 [],om_ 4 32 [0,0],om_ 5 33 [1,2,0,1,2]]) .ret)))))
theorem o_d0 : fnOf Tryz.prog o_cy = some (o_cz, [.t 4, .t 5], 34, false) := by kernel_rfl

abbrev o_d1 : FuncId := 159
def o_d2 : C := (.seq (.reg false [oo_ 2 (.new 43 [.nilsl]) []]) (.seq (.reg false [om_ 4 0 [],oo_ 5 (.len (.t 4)) [0],om_ 3 5 [1,0,1]]) (.seq (.block 0 (.loop (.seq (.seq (.reg false [om_ 6 3 [],oo_ 7 (.bin .gtr (.t 6) (.d (.int .i64
 0))) [0],om_ 8 7 [1],og_ 9 (.mv (.t 0)) 8 true [2],og_ 10 (.mv (.t 3)) 8 true [2],og_ 11 (.bin .sub (.t 10) (.d (.int .i64 1))) 8 true [4,2],og_ 12 (.ix 1 (.t 9) (.t 11)) 8 true [3,5,2],og_ 13 (.load false 1 (.t 12)) 8
 true [6,2],og_ 14 (.bin .eql (.t 13) (.d (.int .u64 0))) 8 true [7,2],oo_ 15 (.pick (.t 8) (.t 14) (.d (.bool false))) [2,8]]) (.cond (.t 15) .skip (.exit 0))) (.block 1 (.reg false [om_ 16 3 [],oo_ 17 (.bin .sub (.t
 16) (.d (.int .i64 1))) [0],om_ 3 17 [1,0,1]]))))) (.seq (.reg false [om_ 18 0 [],om_ 19 3 [],oo_ 20 (.slice 1 (.t 18) none (some (.t 19)) none) [0,1],oo_ 21 (.build [.nilsl] [(0,1,(.t 20))]) [2],on_ (.store 1 (.t 2)
 (.t 21)) [3,0,1,2,3]]) .ret))))
theorem o_d3 : fnOf Tryz.prog o_d1 = some (o_d2, [.cell 2 true 1], 22, false) := by kernel_rfl

abbrev o_d4 : FuncId := 160
def o_d5 : C := (.seq (.reg false [⟨some 4,.mv (.d (.str ⟨#[]⟩)),none,[]⟩]) (.seq (.reg false [om_ 5 0 [],om_ 6 1 [],oo_ 7 (.call 200 [(.t 5),(.t 6)]) [0,1],om_ 4 7 [2,2,0,1,2]]) .ret))
theorem o_d6 : fnOf Tryz.prog o_d4 = some (o_d5, [.t 4], 8, false) := by kernel_rfl

abbrev o_d7 : FuncId := 161
def o_d8 : C := (.seq (.reg false [⟨some 4,.mv (.d (.str ⟨#[]⟩)),none,[]⟩]) (.seq (.seq (.reg false [om_ 11 1 []]) (.block 0 (.seq (.reg false [oo_ 13 (.bin .eql (.t 11) (.d (.int .i64 0))) [],om_ 12 13 [0]]) (.cond (.t 12) (.seq (.reg
 false [⟨some 4,.mv (.d (.str ⟨#[]⟩)),none,[]⟩]) .ret) (.seq (.reg false [oo_ 15 (.bin .eql (.t 11) (.d (.int .i64 1))) [],om_ 14 15 [0]]) (.cond (.t 14) (.seq (.reg false [om_ 16 0 [],om_ 4 16 [0,0]]) .ret) .skip))))))
 (.seq (.seq (.reg false [om_ 17 1 [],oo_ 18 (.bin .lss (.t 17) (.d (.int .i64 0))) [0]]) (.cond (.t 18) (.reg false [⟨some 19,.ifc 9 (.d (.str
 ⟨#[115,116,114,105,110,103,115,58,32,110,101,103,97,116,105,118,101,32,82,101,112,101,97,116,32,99,111,117,110,116]⟩)),none,[]⟩,on_ (.bad) [0]]) .skip)) (.seq (.reg false [om_ 21 0 [],oo_ 22 (.lens (.t 21)) [0],oo_ 23
 (.conv .u64 (.t 22)) [1],om_ 24 1 [],oo_ 25 (.conv .u64 (.t 24)) [3],oo_ 26 (.call 201 [(.t 23),(.t 25)]) [2,4],om_ 20 26 [5],oo_ 27 (.ext (.t 20) 0) [6],oo_ 28 (.ext (.t 20) 1) [6],om_ 5 27 [7,5,0,1,2,3,4,5,6,7],om_ 6
 28 [8,9,0,1,2,3,4,5,6,7,8,9]]) (.seq (.seq (.reg false [om_ 29 5 [],oo_ 30 (.bin .gtr (.t 29) (.d (.int .u64 0))) [0],om_ 31 30 [1],og_ 32 (.mv (.t 6)) 31 false [2],og_ 33 (.bin .gtr (.t 32) (.d (.int .u64
 9223372036854775807))) 31 false [3,2],oo_ 34 (.pick (.t 31) (.d (.bool true)) (.t 33)) [2,4]]) (.cond (.t 34) (.reg false [⟨some 35,.ifc 9 (.d (.str
 ⟨#[115,116,114,105,110,103,115,58,32,82,101,112,101,97,116,32,111,117,116,112,117,116,32,108,101,110,103,116,104,32,111,118,101,114,102,108,111,119]⟩)),none,[]⟩,on_ (.bad) [0]]) .skip)) (.seq (.reg false [om_ 36 6
 [],oo_ 37 (.conv .i64 (.t 36)) [0],om_ 7 37 [1,0,1]]) (.seq (.seq (.reg false [om_ 38 0 [],oo_ 39 (.lens (.t 38)) [0],oo_ 40 (.bin .eql (.t 39) (.d (.int .i64 0))) [1]]) (.cond (.t 40) (.seq (.reg false [⟨some 4,.mv (.d
 (.str ⟨#[]⟩)),none,[]⟩]) .ret) .skip)) (.seq (.seq (.reg false [om_ 41 0 [],oo_ 42 (.gstr (.t 41) (.d (.int .i64 0))) [0]]) (.block 1 (.seq (.seq (.reg false [oo_ 44 (.bin .eql (.t 42) (.d (.int .u8 32))) [],om_ 43 44
 [0]]) (.cond (.t 43) .skip (.seq (.reg false [oo_ 45 (.bin .eql (.t 42) (.d (.int .u8 45))) [],om_ 43 45 [0]]) (.cond (.t 43) .skip (.seq (.reg false [oo_ 46 (.bin .eql (.t 42) (.d (.int .u8 48))) [],om_ 43 46 [0]])
 (.cond (.t 43) .skip (.seq (.reg false [oo_ 47 (.bin .eql (.t 42) (.d (.int .u8 61))) [],om_ 43 47 [0]]) (.cond (.t 43) .skip (.reg false [oo_ 48 (.bin .eql (.t 42) (.d (.int .u8 9))) [],om_ 43 48 [0]]))))))))) (.cond
 (.t 43) (.block 2 (.seq (.reg false [om_ 50 7 [],oo_ 51 (.bin .leq (.t 50) (.d (.int .i64 128))) [0],om_ 52 51 [1],og_ 53 (.mv (.t 0)) 52 true [2],⟨some 54,.call 202 [(.d (.str
 ⟨#[32,32,32,32,32,32,32,32,32,32,32,32,32,32,32,32,32,32,32,32,32,32,32,32,32,32,32,32,32,32,32,32,32,32,32,32,32,32,32,32,32,32,32,32,32,32,32,32,32,32,32,32,32,32,32,32,32,32,32,32,32,32,32,32,32,32,32,32,32,32,32,32,32,32,32,32,32,32,32,32,32,32,32,32,32,32,32,32,32,32,32,32,32,32,32,32,32,32,32,32,32,32,32,32,32,32,32,32,32,32,32,32,32,32,32,32,32,32,32,32,32,32,32,32,32,32,32,32]⟩)),(.t 53)],some (52,true),[3,2,2]⟩,oo_ 55 (.pick (.t 52) (.t 54) (.d (.bool false))) [2,4],om_ 49 55 [5,4]]) (.cond (.t 49) (.seq (.reg false [om_ 56 7 [],⟨some 57,.sstr (.d (.str ⟨#[32,32,32,32,32,32,32,32,32,32,32,32,32,32,32,32,32,32,32,32,32,32,32,32,32,32,32,32,32,32,32,32,32,32,32,32,32,32,32,32,32,32,32,32,32,32,32,32,32,32,32,32,32,32,32,32,32,32,32,32,32,32,32,32,32,32,32,32,32,32,32,32,32,32,32,32,32,32,32,32,32,32,32,32,32,32,32,32,32,32,32,32,32,32,32,32,32,32,32,32,32,32,32,32,32,32,32,32,32,32,32,32,32,32,32,32,32,32,32,32,32,32,32,32,32,32,32,32]⟩)) none (some (.t 56)),none,[0]⟩,om_ 4 57 [1,0,1]]) .ret) (.seq (.reg false [om_ 59 7 [],oo_ 60 (.bin .leq (.t 59) (.d (.int .i64 128))) [0],om_ 61 60 [1],og_ 62 (.mv (.t 0)) 61 true [2],⟨some 63,.call 202 [(.d (.str ⟨#[45,45,45,45,45,45,45,45,45,45,45,45,45,45,45,45,45,45,45,45,45,45,45,45,45,45,45,45,45,45,45,45,45,45,45,45,45,45,45,45,45,45,45,45,45,45,45,45,45,45,45,45,45,45,45,45,45,45,45,45,45,45,45,45,45,45,45,45,45,45,45,45,45,45,45,45,45,45,45,45,45,45,45,45,45,45,45,45,45,45,45,45,45,45,45,45,45,45,45,45,45,45,45,45,45,45,45,45,45,45,45,45,45,45,45,45,45,45,45,45,45,45,45,45,45,45,45,45]⟩)),(.t 62)],some (61,true),[3,2,2]⟩,oo_ 64 (.pick (.t 61) (.t 63) (.d (.bool false))) [2,4],om_ 58 64 [5,4]]) (.cond (.t 58) (.seq (.reg false [om_ 65 7 [],⟨some 66,.sstr (.d (.str ⟨#[45,45,45,45,45,45,45,45,45,45,45,45,45,45,45,45,45,45,45,45,45,45,45,45,45,45,45,45,45,45,45,45,45,45,45,45,45,45,45,45,45,45,45,45,45,45,45,45,45,45,45,45,45,45,45,45,45,45,45,45,45,45,45,45,45,45,45,45,45,45,45,45,45,45,45,45,45,45,45,45,45,45,45,45,45,45,45,45,45,45,45,45,45,45,45,45,45,45,45,45,45,45,45,45,45,45,45,45,45,45,45,45,45,45,45,45,45,45,45,45,45,45,45,45,45,45,45,45]⟩)) none (some (.t 65)),none,[0]⟩,om_ 4 66 [1,0,1]]) .ret) (.seq (.reg false [om_ 68 7 [],oo_ 69 (.bin .leq (.t 68) (.d (.int .i64 64))) [0],om_ 70 69 [1],og_ 71 (.mv (.t 0)) 70 true [2],⟨some 72,.call 202 [(.d (.str ⟨#[48,48,48,48,48,48,48,48,48,48,48,48,48,48,48,48,48,48,48,48,48,48,48,48,48,48,48,48,48,48,48,48,48,48,48,48,48,48,48,48,48,48,48,48,48,48,48,48,48,48,48,48,48,48,48,48,48,48,48,48,48,48,48,48]⟩)),(.t 71)],some (70,true),[3,2,2]⟩,oo_ 73 (.pick (.t 70) (.t 72) (.d (.bool false))) [2,4],om_ 67 73 [5,4]]) (.cond (.t 67) (.seq (.reg false [om_ 74 7 [],⟨some 75,.sstr (.d (.str ⟨#[48,48,48,48,48,48,48,48,48,48,48,48,48,48,48,48,48,48,48,48,48,48,48,48,48,48,48,48,48,48,48,48,48,48,48,48,48,48,48,48,48,48,48,48,48,48,48,48,48,48,48,48,48,48,48,48,48,48,48,48,48,48,48,48]⟩)) none (some (.t 74)),none,[0]⟩,om_ 4 75 [1,0,1]]) .ret) (.seq (.reg false [om_ 77 7 [],oo_ 78 (.bin .leq (.t 77) (.d (.int .i64 128))) [0],om_ 79 78 [1],og_ 80 (.mv (.t 0)) 79 true [2],⟨some 81,.call 202 [(.d (.str ⟨#[61,61,61,61,61,61,61,61,61,61,61,61,61,61,61,61,61,61,61,61,61,61,61,61,61,61,61,61,61,61,61,61,61,61,61,61,61,61,61,61,61,61,61,61,61,61,61,61,61,61,61,61,61,61,61,61,61,61,61,61,61,61,61,61,61,61,61,61,61,61,61,61,61,61,61,61,61,61,61,61,61,61,61,61,61,61,61,61,61,61,61,61,61,61,61,61,61,61,61,61,61,61,61,61,61,61,61,61,61,61,61,61,61,61,61,61,61,61,61,61,61,61,61,61,61,61,61,61]⟩)),(.t 80)],some (79,true),[3,2,2]⟩,oo_ 82 (.pick (.t 79) (.t 81) (.d (.bool false))) [2,4],om_ 76 82 [5,4]]) (.cond (.t 76) (.seq (.reg false [om_ 83 7 [],⟨some 84,.sstr (.d (.str ⟨#[61,61,61,61,61,61,61,61,61,61,61,61,61,61,61,61,61,61,61,61,61,61,61,61,61,61,61,61,61,61,61,61,61,61,61,61,61,61,61,61,61,61,61,61,61,61,61,61,61,61,61,61,61,61,61,61,61,61,61,61,61,61,61,61,61,61,61,61,61,61,61,61,61,61,61,61,61,61,61,61,61,61,61,61,61,61,61,61,61,61,61,61,61,61,61,61,61,61,61,61,61,61,61,61,61,61,61,61,61,61,61,61,61,61,61,61,61,61,61,61,61,61,61,61,61,61,61,61]⟩)) none (some (.t 83)),none,[0]⟩,om_ 4 84 [1,0,1]]) .ret) (.seq (.reg false [om_ 86 7 [],oo_ 87 (.bin .leq (.t 86) (.d (.int .i64 64))) [0],om_ 88 87 [1],og_ 89 (.mv (.t 0)) 88 true [2],⟨some 90,.call 202 [(.d (.str ⟨#[9,9,9,9,9,9,9,9,9,9,9,9,9,9,9,9,9,9,9,9,9,9,9,9,9,9,9,9,9,9,9,9,9,9,9,9,9,9,9,9,9,9,9,9,9,9,9,9,9,9,9,9,9,9,9,9,9,9,9,9,9,9,9,9]⟩)),(.t 89)],some (88,true),[3,2,2]⟩,oo_ 91 (.pick (.t 88) (.t 90) (.d (.bool false))) [2,4],om_ 85 91 [5,4]]) (.cond (.t 85) (.seq (.reg false [om_ 92 7 [],⟨some 93,.sstr (.d (.str ⟨#[9,9,9,9,9,9,9,9,9,9,9,9,9,9,9,9,9,9,9,9,9,9,9,9,9,9,9,9,9,9,9,9,9,9,9,9,9,9,9,9,9,9,9,9,9,9,9,9,9,9,9,9,9,9,9,9,9,9,9,9,9,9,9,9]⟩)) none (some (.t 92)),none,[0]⟩,om_ 4 93 [1,0,1]]) .ret) .skip))))))))))) .skip)))) (.seq (.reg false [om_ 94 7 [],om_ 8 94 [0,0]]) (.seq (.seq (.reg false [om_ 95 7 [],oo_ 96 (.bin .gtr (.t 95) (.d (.int .i64 8192))) [0]]) (.cond (.t 96) (.seq (.reg false [om_ 97 0 [],oo_ 98 (.lens (.t 97)) [0],oo_ 99 (.bin .quo (.d (.int .i64 8192)) (.t 98)) [1],om_ 100 0 [],oo_ 101 (.lens (.t 100)) [3],oo_ 102 (.bin .mul (.t 99) (.t 101)) [2,4],om_ 8 102 [5,0,1,2,3,4,5]]) (.seq (.reg false [om_ 103 8 [],oo_ 104 (.bin .eql (.t 103) (.d (.int .i64 0))) [0]]) (.cond (.t 104) (.reg false [om_ 105 0 [],oo_ 106 (.lens (.t 105)) [0],om_ 8 106 [1,0,1]]) .skip))) .skip)) (.seq (.reg false [oo_ 9 (.new 257 [.nilp,.nilsl]) []]) (.seq (.reg false [om_ 107 7 [],oo_ 108 (.call 203 [(.t 9),(.t 107)]) [0]]) (.seq (.reg false [om_ 109 0 [],oo_ 110 (.call 204 [(.t 9),(.t 109)]) [0]]) (.seq (.block 3 (.loop (.seq (.seq (.reg false [oo_ 111 (.call 205 [(.t 9)]) [],om_ 112 7 [],oo_ 113 (.bin .lss (.t 111) (.t 112)) [0,1]]) (.cond (.t 113) .skip (.exit 3))) (.block 4 (.seq (.reg false [om_ 114 7 [],oo_ 115 (.call 205 [(.t 9)]) [],oo_ 116 (.bin .sub (.t 114) (.t 115)) [0,1],oo_ 117 (.call 205 [(.t 9)]) [1],om_ 118 8 [],oo_ 119 (.mm false [(.t 116),(.t 117),(.t 118)]) [2,3,4],om_ 10 119 [5,3,0,1,2,3,4,5]]) (.reg false [oo_ 120 (.call 206 [(.t 9)]) [],om_ 121 10 [],oo_ 122 (.sstr (.t 120) none (some (.t 121))) [0,1],oo_ 123 (.call 204 [(.t 9),(.t 122)]) [2,0]])))))) (.seq (.reg false [oo_ 124 (.call 206 [(.t 9)]) [],om_ 4 124 [0,0,0]]) .ret)))))))))))))))
theorem o_d9 : fnOf Tryz.prog o_d7 = some (o_d8, [.t 4], 125, false) := by kernel_rfl

abbrev o_da : FuncId := 162
def o_db : C := (.seq (.reg false [oo_ 2 (.box 43 (.t 0)) [],oo_ 3 (.box 43 (.t 1)) [],oo_ 4 (.new 43 [.nilsl]) []]) (.seq (.block 0 (.loop (.seq (.seq (.reg false [oo_ 8 (.load true 1 (.t 3)) [],oo_ 9 (.call 129 [(.t 8)]) [0],oo_ 10
 (.un .not (.t 9)) [1]]) (.cond (.t 10) .skip (.exit 0))) (.block 1 (.seq (.reg false [oo_ 12 (.load true 1 (.t 2)) [],oo_ 13 (.load true 1 (.t 3)) [],oo_ 14 (.call 163 [(.t 12),(.t 13)]) [0,1],om_ 11 14 [2],oo_ 15 (.ext
 (.t 11) 0) [3],oo_ 16 (.ext (.t 11) 1) [3],oo_ 17 (.ext (.t 11) 2) [3],oo_ 5 (.new 43 [.nilsl]) [],oo_ 6 (.new 43 [.nilsl]) [],on_ (.store 1 (.t 5) (.t 15)) [7,4,2,0,1,2,3,4,7,8],on_ (.store 1 (.t 6) (.t 16))
 [8,5,9,0,1,2,3,4,5,7,8,9],om_ 7 17 [6,10,0,1,2,3,4,5,6,7,8,9,10]]) (.reg true [oo_ 18 (.load true 1 (.t 3)) [],oo_ 19 (.load true 1 (.t 6)) [],on_ (.store 1 (.t 2) (.t 18)) [0,0],on_ (.store 1 (.t 3) (.t 19))
 [1,2,0,1,2]])))))) (.seq (.reg false [oo_ 20 (.fa 0 (.t 2)) [],oo_ 21 (.load false 1 (.t 20)) [0],oo_ 22 (.call 132 [(.t 21)]) [1],on_ (.store 1 (.t 4) (.t 22)) [2,2,0,1,2]]) .ret)))
theorem o_dc : fnOf Tryz.prog o_da = some (o_db, [.cell 4 true 1], 23, false) := by kernel_rfl

abbrev o_dd : FuncId := 163
def o_de : C := (.seq (.reg false [oo_ 2 (.box 43 (.t 0)) [],oo_ 3 (.box 43 (.t 1)) [],oo_ 4 (.new 43 [.nilsl]) [],oo_ 5 (.new 43 [.nilsl]) [],oo_ 6 (.mv (.d (.int .i64 0))) []]) (.seq (.block 0 (.seq (.reg false [oo_ 10 (.load true 1
 (.t 3)) [],oo_ 11 (.call 129 [(.t 10)]) [0],om_ 9 11 [1,1]]) (.cond (.t 9) (.seq (.reg false [oo_ 12 (.build [.nilsl] []) [],oo_ 13 (.build [.nilsl] []) [],on_ (.store 1 (.t 4) (.t 12)) [0,0],on_ (.store 1 (.t 5) (.t
 13)) [1,2,0,1,2],oo_ 6 (.mv (.d (.int .i64 7))) [3,0,1,2,3]]) .ret) (.seq (.reg false [oo_ 15 (.load true 1 (.t 2)) [],oo_ 16 (.load true 1 (.t 3)) [],oo_ 17 (.call 155 [(.t 15),(.t 16)]) [0,1],oo_ 18 (.bin .lss (.t 17)
 (.d (.int .i64 0))) [2],om_ 14 18 [3,2]]) (.cond (.t 14) (.seq (.reg false [oo_ 19 (.build [.nilsl] []) [],oo_ 20 (.fa 0 (.t 2)) [],oo_ 21 (.load false 1 (.t 20)) [1],oo_ 22 (.call 132 [(.t 21)]) [2],on_ (.store 1 (.t
 4) (.t 19)) [0,3,0],on_ (.store 1 (.t 5) (.t 22)) [3,4,0,1,2,3,4],oo_ 6 (.mv (.d (.int .i64 0))) [5,0,1,2,3,4,5]]) .ret) (.seq (.reg false [oo_ 24 (.fa 0 (.t 3)) [],oo_ 25 (.load false 1 (.t 24)) [0],oo_ 26 (.len (.t
 25)) [1],oo_ 27 (.bin .eql (.t 26) (.d (.int .i64 1))) [2],om_ 23 27 [3]]) (.cond (.t 23) (.seq (.reg true [oo_ 29 (.fa 0 (.t 2)) [],oo_ 30 (.load false 1 (.t 29)) [0],oo_ 31 (.fa 0 (.t 3)) [],oo_ 32 (.load false 1 (.t
 31)) [2],oo_ 33 (.ix 1 (.t 32) (.d (.int .i64 0))) [3],oo_ 34 (.load false 1 (.t 33)) [4],oo_ 35 (.call 158 [(.t 30),(.t 34)]) [1,5],om_ 28 35 [6],oo_ 36 (.ext (.t 28) 0) [7],oo_ 37 (.ext (.t 28) 1) [7],om_ 7 36
 [8,6,0,1,2,3,4,5,6,7,8],om_ 8 37 [9,10,0,1,2,3,4,5,6,7,8,9,10]]) (.seq (.reg false [om_ 38 7 [],oo_ 39 (.call 159 [(.t 38)]) [0],om_ 40 8 [],oo_ 41 (.bsl 199 1 1 [(.int .u64 0)] [(0,1,(.t 40))]) [2],oo_ 42 (.call 132
 [(.t 41)]) [3,1],on_ (.store 1 (.t 4) (.t 39)) [1,4,0,1],on_ (.store 1 (.t 5) (.t 42)) [4,5,0,1,2,3,4,5],oo_ 6 (.mv (.d (.int .i64 0))) [6,0,1,2,3,4,5,6]]) .ret)) .skip))))))) (.seq (.reg false [oo_ 43 (.load true 1 (.t
 2)) [],oo_ 44 (.load true 1 (.t 3)) [],oo_ 45 (.call 207 [(.t 43),(.t 44)]) [0,1],oo_ 46 (.ext (.t 45) 0) [2],oo_ 47 (.ext (.t 45) 1) [2],oo_ 48 (.ext (.t 45) 2) [2],on_ (.store 1 (.t 4) (.t 46)) [3,2,0,1,2,3,4,5],on_
 (.store 1 (.t 5) (.t 47)) [4,6,0,1,2,3,4,5,6],om_ 6 48 [5,7,0,1,2,3,4,5,6,7]]) .ret)))
theorem o_df : fnOf Tryz.prog o_dd = some (o_de, [.cell 4 true 1, .cell 5 true 1, .t 6], 49, false) := by kernel_rfl

abbrev o_dg : FuncId := 164
def o_dh : C := (.seq (.reg false [oo_ 2 (.box 43 (.t 0)) [],oo_ 3 (.box 43 (.t 1)) [],oo_ 4 (.new 43 [.nilsl]) [],oo_ 5 (.mv (.d (.int .i64 0))) []]) (.seq (.seq (.reg false [oo_ 11 (.load true 1 (.t 2)) [],oo_ 12 (.load true 1 (.t
 3)) [],oo_ 13 (.call 155 [(.t 11),(.t 12)]) [0,1],oo_ 14 (.bin .lss (.t 13) (.d (.int .i64 0))) [2]]) (.cond (.t 14) (.seq (.reg false [oo_ 15 (.build [.nilsl] []) [],on_ (.store 1 (.t 4) (.t 15)) [0,0],oo_ 5 (.mv (.d
 (.int .i64 2))) [1,0,1]]) .ret) .skip)) (.seq (.reg false [oo_ 16 (.fa 0 (.t 2)) [],oo_ 17 (.load false 1 (.t 16)) [0],oo_ 18 (.len (.t 17)) [1],oo_ 19 (.mksl 199 1 8 [(.int .u64 0)] (.t 18) (.t 18)) [2,2],om_ 6 19
 [3,0,1,2,3]]) (.seq (.reg false [oo_ 7 (.mv (.d (.int .u64 0))) []]) (.seq (.seq (.reg false [oo_ 20 (.fa 0 (.t 2)) [],oo_ 21 (.load false 1 (.t 20)) [0],oo_ 22 (.len (.t 21)) [1],oo_ 23 (.mv (.d (.int .i64 0))) []])
 (.block 0 (.loop (.seq (.reg false [oo_ 24 (.bin .lss (.t 23) (.t 22)) []]) (.seq (.cond (.t 24) .skip (.exit 0)) (.seq (.block 1 (.seq (.reg false [om_ 25 23 [],oo_ 26 (.ix 1 (.t 21) (.t 23)) [],oo_ 27 (.load false 1
 (.t 26)) [1],om_ 8 25 [0,0,1,2],om_ 9 27 [2,3,0,1,2,3]]) (.seq (.reg false [oo_ 10 (.mv (.d (.int .u64 0))) []]) (.seq (.seq (.reg false [om_ 28 8 [],oo_ 29 (.fa 0 (.t 3)) [],oo_ 30 (.load false 1 (.t 29)) [1],oo_ 31
 (.len (.t 30)) [2],oo_ 32 (.bin .lss (.t 28) (.t 31)) [0,3]]) (.cond (.t 32) (.reg false [oo_ 33 (.fa 0 (.t 3)) [],oo_ 34 (.load false 1 (.t 33)) [0],om_ 35 8 [],oo_ 36 (.ix 1 (.t 34) (.t 35)) [1,2],oo_ 37 (.load false
 1 (.t 36)) [3],om_ 10 37 [4,0,1,2,3,4]]) .skip)) (.reg false [om_ 39 6 [],om_ 40 8 [],om_ 41 9 [],om_ 42 10 [],om_ 43 7 [],oo_ 44 (.call 208 [(.t 41),(.t 42),(.t 43)]) [2,3,4],om_ 38 44 [5],oo_ 45 (.ext (.t 38) 0)
 [6],oo_ 46 (.ext (.t 38) 1) [6],oo_ 47 (.ix 1 (.t 39) (.t 40)) [0,1,0,1,2,3,4,5,6,7],on_ (.store 1 (.t 47) (.t 45)) [9,7,5,0,1,2,3,4,5,6,7],om_ 7 46 [8,10,0,1,2,3,4,5,6,7,8,9,10]]))))) (.reg false [oo_ 48 (.bin .add (.t
 23) (.d (.int .i64 1))) [],om_ 23 48 [0]]))))))) (.seq (.reg false [om_ 49 6 [],oo_ 50 (.call 159 [(.t 49)]) [0],on_ (.store 1 (.t 4) (.t 50)) [1,1,0,1],oo_ 5 (.mv (.d (.int .i64 0))) [2,0,1,2]]) .ret))))))
theorem o_di : fnOf Tryz.prog o_dg = some (o_dh, [.cell 4 true 1, .t 5], 51, false) := by kernel_rfl

abbrev o_dj : FuncId := 165
def o_dk : C := (.seq (.reg false [oo_ 4 (.mv (.d (.int .u64 0))) [],oo_ 5 (.mv (.d (.int .u64 0))) [0]]) (.seq (.reg false [om_ 14 0 [],oo_ 15 (.bin .and (.t 14) (.d (.int .u64 4294967295))) [0],om_ 6 15 [1,0,1]]) (.seq (.reg false
 [om_ 16 0 [],oo_ 17 (.bin .shr (.t 16) (.d (.int .u64 32))) [0],om_ 7 17 [1,0,1]]) (.seq (.reg false [om_ 18 1 [],oo_ 19 (.bin .and (.t 18) (.d (.int .u64 4294967295))) [0],om_ 8 19 [1,0,1]]) (.seq (.reg false [om_ 20 1
 [],oo_ 21 (.bin .shr (.t 20) (.d (.int .u64 32))) [0],om_ 9 21 [1,0,1]]) (.seq (.reg false [om_ 22 6 [],om_ 23 8 [],oo_ 24 (.bin .mul (.t 22) (.t 23)) [0,1],om_ 10 24 [2,0,1,2]]) (.seq (.reg false [om_ 25 7 [],om_ 26 8
 [],oo_ 27 (.bin .mul (.t 25) (.t 26)) [0,1],om_ 28 10 [],oo_ 29 (.bin .shr (.t 28) (.d (.int .u64 32))) [3],oo_ 30 (.bin .add (.t 27) (.t 29)) [2,4],om_ 11 30 [5,0,1,2,3,4,5]]) (.seq (.reg false [om_ 31 11 [],oo_ 32
 (.bin .and (.t 31) (.d (.int .u64 4294967295))) [0],om_ 12 32 [1,0,1]]) (.seq (.reg false [om_ 33 11 [],oo_ 34 (.bin .shr (.t 33) (.d (.int .u64 32))) [0],om_ 13 34 [1,0,1]]) (.seq (.reg false [om_ 35 12 [],om_ 36 6
 [],om_ 37 9 [],oo_ 38 (.bin .mul (.t 36) (.t 37)) [1,2],oo_ 39 (.bin .add (.t 35) (.t 38)) [0,3],om_ 12 39 [4,0,1,2,3,4]]) (.seq (.reg false [om_ 40 7 [],om_ 41 9 [],oo_ 42 (.bin .mul (.t 40) (.t 41)) [0,1],om_ 43 13
 [],oo_ 44 (.bin .add (.t 42) (.t 43)) [2,3],om_ 45 12 [],oo_ 46 (.bin .shr (.t 45) (.d (.int .u64 32))) [5],oo_ 47 (.bin .add (.t 44) (.t 46)) [4,6],om_ 4 47 [7,0,1,2,3,4,5,6,7]]) (.seq (.reg false [om_ 48 0 [],om_ 49 1
 [],oo_ 50 (.bin .mul (.t 48) (.t 49)) [0,1],om_ 5 50 [2,0,1,2]]) .ret))))))))))))
theorem o_dl : fnOf Tryz.prog o_dj = some (o_dk, [.t 4, .t 5], 51, false) := by kernel_rfl

abbrev o_dm : FuncId := 167
def o_dn : C := (.seq (.reg false [oo_ 2 (.box 161 (.t 0)) [],oo_ 4 (.mv (.d (.int .i64 0))) []]) (.seq (.seq (.reg false [oo_ 8 (.load true 2 (.t 2)) [],oo_ 9 (.call 191 [(.t 8)]) [0],om_ 5 9 [1,1,0,1]]) (.seq (.reg false [om_ 10 5
 [],oo_ 11 (.bin .neq (.t 10) (.d (.int .i64 0))) [0]]) (.cond (.t 11) (.seq (.reg false [om_ 12 5 [],om_ 4 12 [0,0]]) .ret) .skip))) (.seq (.seq (.reg false [om_ 13 1 [],oo_ 14 (.len (.t 13)) [0],oo_ 15 (.mv (.d (.int
 .i64 0))) []]) (.block 0 (.loop (.seq (.reg false [oo_ 16 (.bin .lss (.t 15) (.t 14)) []]) (.seq (.cond (.t 16) .skip (.exit 0)) (.seq (.block 1 (.seq (.reg false [oo_ 17 (.ix 3 (.t 13) (.t 15)) [],oo_ 18 (.load true 3
 (.t 17)) [0],oo_ 7 (.new 159 [(.int .i64 0),(.int .i64 0),(.bool false)]) [],on_ (.store 3 (.t 7) (.t 18)) [2,1,0,1,2]]) (.seq (.reg false [oo_ 19 (.load true 2 (.t 2)) [],oo_ 20 (.load true 3 (.t 7)) [],oo_ 21 (.call
 154 [(.t 19),(.t 20)]) [0,1],oo_ 22 (.un .not (.t 21)) [2]]) (.cond (.t 22) (.seq (.reg false [oo_ 4 (.mv (.d (.int .i64 2))) []]) .ret) .skip)))) (.reg false [oo_ 23 (.bin .add (.t 15) (.d (.int .i64 1))) [],om_ 15 23
 [0]]))))))) (.seq (.reg false [oo_ 4 (.mv (.d (.int .i64 0))) []]) .ret))))
theorem o_do : fnOf Tryz.prog o_dm = some (o_dn, [.t 4], 24, false) := by kernel_rfl

abbrev o_dp : FuncId := 173
def o_dq : C := (.seq (.reg false [oo_ 2 (.mv (.d (.int .i64 0))) []]) (.seq (.seq (.reg false [om_ 3 0 [],oo_ 4 (.bin .geq (.t 3) (.d (.int .u64 4294967296))) [0]]) (.cond (.t 4) (.seq (.reg false [om_ 5 0 [],oo_ 6 (.bin .shr (.t 5)
 (.d (.int .u64 32))) [0],om_ 0 6 [1,0,1]]) (.reg false [oo_ 2 (.mv (.d (.int .i64 32))) []])) .skip)) (.seq (.seq (.reg false [om_ 7 0 [],oo_ 8 (.bin .geq (.t 7) (.d (.int .u64 65536))) [0]]) (.cond (.t 8) (.seq (.reg
 false [om_ 9 0 [],oo_ 10 (.bin .shr (.t 9) (.d (.int .u64 16))) [0],om_ 0 10 [1,0,1]]) (.reg false [om_ 11 2 [],oo_ 12 (.bin .add (.t 11) (.d (.int .i64 16))) [0],om_ 2 12 [1,0,1]])) .skip)) (.seq (.seq (.reg false [om_
 13 0 [],oo_ 14 (.bin .geq (.t 13) (.d (.int .u64 256))) [0]]) (.cond (.t 14) (.seq (.reg false [om_ 15 0 [],oo_ 16 (.bin .shr (.t 15) (.d (.int .u64 8))) [0],om_ 0 16 [1,0,1]]) (.reg false [om_ 17 2 [],oo_ 18 (.bin .add
 (.t 17) (.d (.int .i64 8))) [0],om_ 2 18 [1,0,1]])) .skip)) (.seq (.reg false [om_ 19 2 [],om_ 20 0 [],oo_ 21 (.conv .u8 (.t 20)) [1],⟨some 22,.gstr (.d (.str
 ⟨#[0,1,2,2,3,3,3,3,4,4,4,4,4,4,4,4,5,5,5,5,5,5,5,5,5,5,5,5,5,5,5,5,6,6,6,6,6,6,6,6,6,6,6,6,6,6,6,6,6,6,6,6,6,6,6,6,6,6,6,6,6,6,6,6,7,7,7,7,7,7,7,7,7,7,7,7,7,7,7,7,7,7,7,7,7,7,7,7,7,7,7,7,7,7,7,7,7,7,7,7,7,7,7,7,7,7,7,7,7,7,7,7,7,7,7,7,7,7,7,7,7,7,7,7,7,7,7,7,8,8,8,8,8,8,8,8,8,8,8,8,8,8,8,8,8,8,8,8,8,8,8,8,8,8,8,8,8,8,8,8,8,8,8,8,8,8,8,8,8,8,8,8,8,8,8,8,8,8,8,8,8,8,8,8,8,8,8,8,8,8,8,8,8,8,8,8,8,8,8,8,8,8,8,8,8,8,8,8,8,8,8,8,8,8,8,8,8,8,8,8,8,8,8,8,8,8,8,8,8,8,8,8,8,8,8,8,8,8,8,8,8,8,8,8,8,8,8,8,8,8,8,8,8,8,8,8]⟩)) (.t 21),none,[2]⟩,oo_ 23 (.conv .i64 (.t 22)) [3],oo_ 24 (.bin .add (.t 19) (.t 23)) [0,4],om_ 2 24 [5,0,1,2,3,4,5]]) .ret)))))
theorem o_dr : fnOf Tryz.prog o_dp = some (o_dq, [.t 2], 25, false) := by kernel_rfl

abbrev o_ds : FuncId := 176
def o_dt : C := (.seq (.reg false [oo_ 2 (.mv (.d .nilsl)) []]) (.seq (.reg false [om_ 4 0 [],oo_ 5 (.len (.t 4)) [0],om_ 3 5 [1,0,1]]) (.seq (.block 0 (.loop (.seq (.seq (.reg false [om_ 6 3 [],oo_ 7 (.bin .gtr (.t 6) (.d (.int .i64
 0))) [0],om_ 8 7 [1],og_ 9 (.mv (.t 0)) 8 true [2],og_ 10 (.mv (.t 3)) 8 true [2],og_ 11 (.bin .sub (.t 10) (.d (.int .i64 1))) 8 true [4,2],og_ 12 (.ix 1 (.t 9) (.t 11)) 8 true [3,5,2],og_ 13 (.load false 1 (.t 12)) 8
 true [6,2],og_ 14 (.bin .eql (.t 13) (.d (.int .i64 0))) 8 true [7,2],oo_ 15 (.pick (.t 8) (.t 14) (.d (.bool false))) [2,8]]) (.cond (.t 15) .skip (.exit 0))) (.block 1 (.reg false [om_ 16 3 [],oo_ 17 (.bin .sub (.t
 16) (.d (.int .i64 1))) [0],om_ 3 17 [1,0,1]]))))) (.seq (.reg false [om_ 18 0 [],om_ 19 3 [],oo_ 20 (.slice 1 (.t 18) none (some (.t 19)) none) [0,1],om_ 2 20 [2,0,1,2]]) .ret))))
theorem o_du : fnOf Tryz.prog o_ds = some (o_dt, [.t 2], 21, false) := by kernel_rfl

abbrev o_dv : FuncId := 182
def o_dw : C := (.seq (.reg false [oo_ 2 (.mv (.d .nilsl)) []]) (.seq (.seq (.reg false [om_ 3 0 [],oo_ 4 (.snl false (.t 3)) [0]]) (.cond (.t 4) (.seq (.reg false [oo_ 2 (.mv (.d .nilsl)) []]) .ret) .skip)) (.seq (.reg false [oo_ 5
 (.bsl0) [],om_ 6 0 [],oo_ 7 (.app 199 1 8 (.t 5) (.t 6)) [0,1],om_ 2 7 [2,2,0,1,2]]) .ret)))
theorem o_dx : fnOf Tryz.prog o_dv = some (o_dw, [.t 2], 8, false) := by kernel_rfl

abbrev o_dy : FuncId := 184
def o_dz : C := (.seq (.reg false [oo_ 2 (.new 47 [.nilsl,(.bool false),.nilsl]) [],oo_ 3 (.mv (.d (.int .i64 0))) []]) (.seq (.reg false [oo_ 7 (.bsl 199 1 1 [(.int .u64 0)] [(0,1,(.d (.int .u64 1)))]) [],oo_ 8 (.call 132 [(.t 7)])
 [0],om_ 9 0 [],oo_ 10 (.call 211 [(.t 8),(.t 9)]) [1,2,1],om_ 6 10 [3],oo_ 11 (.ext (.t 6) 0) [4],oo_ 12 (.ext (.t 6) 1) [4],oo_ 4 (.new 43 [.nilsl]) [],on_ (.store 1 (.t 4) (.t 11)) [7,5,3,0,1,2,3,4,5,7],om_ 5 12
 [6,8,0,1,2,3,4,5,6,7,8]]) (.seq (.seq (.reg false [om_ 13 5 [],oo_ 14 (.bin .neq (.t 13) (.d (.int .i64 0))) [0]]) (.cond (.t 14) (.seq (.reg false [oo_ 15 (.build [.nilsl,(.bool false),.nilsl] []) [],om_ 16 5 [],on_
 (.store 3 (.t 2) (.t 15)) [0,0],om_ 3 16 [1,2,0,1,2]]) .ret) .skip)) (.seq (.reg true [oo_ 17 (.call 67 [(.d (.int .i64 1))]) [],oo_ 18 (.load true 1 (.t 4)) [],oo_ 19 (.call 96 [(.t 17),(.t 18)]) [0,1,0],on_ (.store 3
 (.t 2) (.t 19)) [2,2,0,1,2],oo_ 3 (.mv (.d (.int .i64 0))) [3,0,1,2,3]]) .ret))))
theorem o_e0 : fnOf Tryz.prog o_dy = some (o_dz, [.cell 2 true 3, .t 3], 20, false) := by kernel_rfl

abbrev o_e1 : FuncId := 185
def o_e2 : C := (.seq (.reg false [oo_ 1 (.box 64 (.t 0)) [],oo_ 2 (.mv .bad) []]) (.seq (.reg false [oo_ 6 (.mkm 1000391) [],om_ 3 6 [0,0]]) (.seq (.reg false [oo_ 7 (.bsl 199 1 1 [(.int .u64 0)] [(0,1,(.d (.int .u64 1)))]) [],oo_ 8
 (.call 132 [(.t 7)]) [0],oo_ 4 (.new 43 [.nilsl]) [],on_ (.store 1 (.t 4) (.t 8)) [2,1,1,0,1,2]]) (.seq (.seq (.reg false [oo_ 5 (.mv (.d (.int .i64 0))) []]) (.block 0 (.loop (.seq (.seq (.reg false [om_ 9 5 [],oo_ 10
 (.fa 0 (.t 1)) [],oo_ 11 (.load false 1 (.t 10)) [1],oo_ 12 (.bin .leq (.t 9) (.t 11)) [0,2]]) (.cond (.t 12) .skip (.exit 0))) (.seq (.block 1 (.seq (.reg true [om_ 15 3 [],om_ 16 5 [],oo_ 17 (.fa 1 (.t 1)) [],oo_ 18
 (.load false 1 (.t 17)) [2],oo_ 19 (.bin .add (.t 18) (.d (.int .i64 1))) [3],oo_ 20 (.fa 2 (.t 1)) [],oo_ 21 (.load false 1 (.t 20)) [5],oo_ 22 (.build [(.int .i64 0),(.int .i64 0),(.bool false)] [(0,1,(.t
 16)),(1,1,(.t 19)),(2,1,(.t 21))]) [1,4,6],oo_ 23 (.load true 1 (.t 4)) [],oo_ 24 (.call 197 [(.t 23)]) [8],oo_ 25 (.fa 0 (.t 1)) [],oo_ 26 (.load false 1 (.t 25)) [10],oo_ 27 (.call 140 [(.t 26)]) [11,9],oo_ 28 (.call
 39 [(.t 24),(.t 27)]) [9,12,12],oo_ 29 (.call 113 [(.t 15),(.t 22),(.t 28)]) [0,7,13,13]]) (.reg true [oo_ 31 (.load true 1 (.t 4)) [],oo_ 32 (.fa 0 (.t 1)) [],oo_ 33 (.load false 1 (.t 32)) [1],om_ 34 5 [],oo_ 35 (.bin
 .sub (.t 33) (.t 34)) [2,3],oo_ 36 (.conv .u64 (.t 35)) [4],oo_ 37 (.bsl 199 1 1 [(.int .u64 0)] [(0,1,(.t 36))]) [5],oo_ 38 (.call 132 [(.t 37)]) [6],oo_ 39 (.call 97 [(.t 31),(.t 38)]) [0,7,7],om_ 40 5 [],oo_ 41 (.bin
 .add (.t 40) (.d (.int .i64 1))) [9],oo_ 42 (.conv .u64 (.t 41)) [10],oo_ 43 (.bsl 199 1 1 [(.int .u64 0)] [(0,1,(.t 42))]) [11],oo_ 44 (.call 132 [(.t 43)]) [12,8],oo_ 45 (.call 163 [(.t 39),(.t 44)]) [8,13,13],om_ 30
 45 [14],oo_ 46 (.ext (.t 30) 0) [15],oo_ 47 (.ext (.t 30) 1) [15],oo_ 48 (.ext (.t 30) 2) [15],on_ (.store 1 (.t 4) (.t 46)) [16,14,0,1,2,3,4,5,6,7,8,9,10,11,12,13,14,15,16]]))) (.reg false [om_ 13 5 [],oo_ 14 (.bin
 .add (.t 13) (.d (.int .i64 1))) [0],om_ 5 14 [1,0,1]])))))) (.seq (.reg false [om_ 49 3 [],om_ 2 49 [0,0]]) .ret)))))
theorem o_e3 : fnOf Tryz.prog o_e1 = some (o_e2, [.t 2], 50, false) := by kernel_rfl

abbrev o_e4 : FuncId := 186
def o_e5 : C := (.seq (.reg false [oo_ 2 (.box 64 (.t 0)) [],oo_ 3 (.mv .bad) []]) (.seq (.reg false [oo_ 4 (.load true 3 (.t 1)) [],oo_ 5 (.load true 3 (.t 2)) [],oo_ 6 (.call 142 [(.t 4),(.t 5)]) [0,1],om_ 3 6 [2,2,0,1,2]]) .ret))
theorem o_e6 : fnOf Tryz.prog o_e4 = some (o_e5, [.t 3], 7, false) := by kernel_rfl

abbrev o_e7 : FuncId := 188
def o_e8 : C := (.seq (.reg false [oo_ 2 (.mv (.d (.int .i64 0))) []]) (.seq (.reg false [oo_ 3 (.mv (.d (.int .i64 0))) []]) (.seq (.seq (.reg false [om_ 6 0 [],oo_ 7 (.len (.t 6)) [0],oo_ 8 (.mv (.d (.int .i64 0))) []]) (.block 0
 (.loop (.seq (.reg false [oo_ 9 (.bin .lss (.t 8) (.t 7)) []]) (.seq (.cond (.t 9) .skip (.exit 0)) (.seq (.block 1 (.seq (.reg false [oo_ 10 (.ix 1 (.t 6) (.t 8)) [],oo_ 11 (.load false 1 (.t 10)) [0],om_ 5 11
 [1,0,1]]) (.seq (.reg false [om_ 12 5 [],om_ 13 3 [],oo_ 14 (.bin .neq (.t 12) (.t 13)) [0,1]]) (.cond (.t 14) (.seq (.reg false [om_ 15 5 [],om_ 2 15 [0,0]]) .ret) .skip)))) (.reg false [oo_ 16 (.bin .add (.t 8) (.d
 (.int .i64 1))) [],om_ 8 16 [0]]))))))) (.seq (.reg false [om_ 17 3 [],om_ 2 17 [0,0]]) .ret))))
theorem o_e9 : fnOf Tryz.prog o_e7 = some (o_e8, [.t 2], 18, false) := by kernel_rfl

abbrev o_ea : FuncId := 189
def o_eb : C := (.seq (.reg false [oo_ 4 (.mv (.d (.int .i64 0))) []]) (.seq (.reg false [om_ 7 0 [],oo_ 8 (.call 220 [(.t 7)]) [0],om_ 5 8 [1,1,0,1]]) (.seq (.reg false [om_ 9 1 [],oo_ 10 (.call 220 [(.t 9)]) [0],om_ 6 10 [1,1,0,1]])
 (.seq (.seq (.reg false [om_ 11 5 []]) (.cond (.t 11) (.seq (.seq (.reg false [om_ 12 6 []]) (.cond (.t 12) (.seq (.reg false [oo_ 4 (.mv (.d (.int .i64 0))) []]) .ret) .skip)) (.seq (.reg false [oo_ 4 (.mv (.d (.int
 .i64 (-1)))) []]) .ret)) .skip)) (.seq (.seq (.reg false [om_ 13 6 []]) (.cond (.t 13) (.seq (.reg false [oo_ 4 (.mv (.d (.int .i64 1))) []]) .ret) .skip)) (.seq (.seq (.reg false [om_ 14 0 [],om_ 15 1 [],oo_ 16 (.bin
 .lss (.t 14) (.t 15)) [0,1]]) (.cond (.t 16) (.seq (.reg false [oo_ 4 (.mv (.d (.int .i64 (-1)))) []]) .ret) .skip)) (.seq (.seq (.reg false [om_ 17 0 [],om_ 18 1 [],oo_ 19 (.bin .gtr (.t 17) (.t 18)) [0,1]]) (.cond (.t
 19) (.seq (.reg false [oo_ 4 (.mv (.d (.int .i64 1))) []]) .ret) .skip)) (.seq (.reg false [oo_ 4 (.mv (.d (.int .i64 0))) []]) .ret))))))))
theorem o_ec : fnOf Tryz.prog o_ea = some (o_eb, [.t 4], 20, false) := by kernel_rfl

abbrev o_ed : FuncId := 190
def o_ee : C := (.seq (.reg false [oo_ 2 (.mv (.d (.int .i64 0))) []]) (.seq (.seq (.reg false [om_ 3 0 []]) (.cond (.t 3) (.seq (.reg false [oo_ 2 (.mv (.d (.int .i64 1))) []]) .ret) .skip)) (.seq (.reg false [oo_ 2 (.mv (.d (.int
 .i64 0))) []]) .ret)))
theorem o_ef : fnOf Tryz.prog o_ed = some (o_ee, [.t 2], 4, false) := by kernel_rfl

abbrev o_eg : FuncId := 191
def o_eh : C := (.seq (.reg false [oo_ 1 (.box 161 (.t 0)) [],oo_ 2 (.mv (.d (.int .i64 0))) []]) (.seq (.seq (.reg false [oo_ 3 (.fa 0 (.t 1)) [],oo_ 4 (.load false 1 (.t 3)) [0],oo_ 5 (.bin .lss (.t 4) (.d (.int .i64 1))) [1],om_ 6 5
 [2],og_ 7 (.fa 0 (.t 1)) 6 false [3],og_ 8 (.load false 1 (.t 7)) 6 false [4,3],og_ 9 (.bin .gtr (.t 8) (.d (.int .i64 1023))) 6 false [5,3],oo_ 10 (.pick (.t 6) (.d (.bool true)) (.t 9)) [3,6],om_ 11 10 [7,3],og_ 12
 (.fa 1 (.t 1)) 11 false [8],og_ 13 (.load false 1 (.t 12)) 11 false [9,8],og_ 14 (.bin .lss (.t 13) (.d (.int .i64 0))) 11 false [10,8],oo_ 15 (.pick (.t 11) (.d (.bool true)) (.t 14)) [8,11],om_ 16 15 [12,8],og_ 17
 (.fa 1 (.t 1)) 16 false [13],og_ 18 (.load false 1 (.t 17)) 16 false [14,13],og_ 19 (.bin .gtr (.t 18) (.d (.int .i64 20))) 16 false [15,13],oo_ 20 (.pick (.t 16) (.d (.bool true)) (.t 19)) [13,16]]) (.cond (.t 20)
 (.seq (.reg false [oo_ 2 (.mv (.d (.int .i64 10))) []]) .ret) .skip)) (.seq (.reg false [oo_ 2 (.mv (.d (.int .i64 0))) []]) .ret)))
theorem o_ei : fnOf Tryz.prog o_eg = some (o_eh, [.t 2], 21, false) := by kernel_rfl

abbrev o_ej : FuncId := 192
def o_ek : C := (.seq (.reg false [oo_ 4 (.mv (.d (.int .i64 0))) []]) (.seq (.seq (.reg false [om_ 6 0 [],oo_ 7 (.len (.t 6)) [0],oo_ 8 (.mv (.d (.int .i64 0))) []]) (.block 0 (.loop (.seq (.reg false [oo_ 9 (.bin .lss (.t 8) (.t 7))
 []]) (.seq (.cond (.t 9) .skip (.exit 0)) (.seq (.block 1 (.seq (.reg false [om_ 10 8 [],om_ 5 10 [0,0]]) (.seq (.reg false [om_ 11 1 [],om_ 12 0 [],om_ 13 5 [],oo_ 14 (.ix 3 (.t 12) (.t 13)) [1,2],oo_ 15 (.load true 3
 (.t 14)) [3],oo_ 16 (.callv (.t 11) [(.t 15)]) [0,4]]) (.cond (.t 16) (.seq (.reg false [om_ 17 5 [],om_ 4 17 [0,0]]) .ret) .skip)))) (.reg false [oo_ 18 (.bin .add (.t 8) (.d (.int .i64 1))) [],om_ 8 18 [0]])))))))
 (.seq (.reg false [oo_ 4 (.mv (.d (.int .i64 (-1)))) []]) .ret)))
theorem o_el : fnOf Tryz.prog o_ej = some (o_ek, [.t 4], 19, false) := by kernel_rfl

abbrev o_em : FuncId := 196
def o_en : C := (.seq (.reg false [oo_ 2 (.box 161 (.t 0)) [],oo_ 3 (.box 159 (.t 1)) [],oo_ 4 (.new 43 [.nilsl]) [],oo_ 5 (.mv (.d (.int .i64 0))) []]) (.seq (.seq (.reg false [oo_ 7 (.load true 2 (.t 2)) [],oo_ 8 (.load true 3 (.t
 3)) [],oo_ 9 (.bsl 159 3 1 [(.int .i64 0),(.int .i64 0),(.bool false)] [(0,3,(.t 8))]) [1],oo_ 10 (.call 167 [(.t 7),(.t 9)]) [0,2],om_ 6 10 [3,3,0,1,2,3]]) (.seq (.reg false [om_ 11 6 [],oo_ 12 (.bin .neq (.t 11) (.d
 (.int .i64 0))) [0]]) (.cond (.t 12) (.seq (.reg false [oo_ 13 (.build [.nilsl] []) [],om_ 14 6 [],on_ (.store 1 (.t 4) (.t 13)) [0,0],om_ 5 14 [1,2,0,1,2]]) .ret) .skip))) (.seq (.reg true [oo_ 15 (.fa 0 (.t 3)) [],oo_
 16 (.load false 1 (.t 15)) [0],oo_ 17 (.conv .u64 (.t 16)) [1],oo_ 18 (.bsl 199 1 1 [(.int .u64 0)] [(0,1,(.t 17))]) [2],oo_ 19 (.call 132 [(.t 18)]) [3],oo_ 20 (.fa 1 (.t 3)) [],oo_ 21 (.load false 1 (.t 20)) [5],oo_
 22 (.call 211 [(.t 19),(.t 21)]) [4,6,4],oo_ 23 (.ext (.t 22) 0) [7],oo_ 24 (.ext (.t 22) 1) [7],on_ (.store 1 (.t 4) (.t 23)) [8,7,0,1,2,3,4,5,6,7,8,9],om_ 5 24 [9,10,0,1,2,3,4,5,6,7,8,9,10]]) .ret)))
theorem o_eo : fnOf Tryz.prog o_em = some (o_en, [.cell 4 true 1, .t 5], 25, false) := by kernel_rfl

abbrev o_ep : FuncId := 197
def o_eq : C := (.seq (.reg false [oo_ 1 (.box 43 (.t 0)) [],oo_ 2 (.new 47 [.nilsl,(.bool false),.nilsl]) []]) (.seq (.reg false [oo_ 3 (.load true 1 (.t 1)) [],oo_ 4 (.call 130 [(.d (.bool false)),(.t 3)]) [0],oo_ 5 (.build
 [.nilsl,(.bool false),.nilsl] [(0,2,(.t 4))]) [1],on_ (.store 3 (.t 2) (.t 5)) [2,1,0,1,2]]) .ret))
theorem o_er : fnOf Tryz.prog o_ep = some (o_eq, [.cell 2 true 3], 6, false) := by kernel_rfl

abbrev o_es : FuncId := 198
def o_et : C := (.seq (.reg false [oo_ 2 (.box 26 (.t 0)) [],oo_ 4 (.new 47 [.nilsl,(.bool false),.nilsl]) [],oo_ 5 (.mv (.d (.int .i64 0))) []]) (.seq (.seq (.reg false [oo_ 7 (.load true 3 (.t 2)) [],om_ 8 1 [],oo_ 9 (.bsl 3 1 1
 [(.int .i64 0)] [(0,1,(.t 8))]) [1],oo_ 10 (.call 55 [(.t 7),(.t 9)]) [0,2],om_ 6 10 [3,3,0,1,2,3]]) (.seq (.reg false [om_ 11 6 [],oo_ 12 (.bin .neq (.t 11) (.d (.int .i64 0))) [0]]) (.cond (.t 12) (.seq (.reg false
 [oo_ 13 (.build [.nilsl,(.bool false),.nilsl] []) [],om_ 14 6 [],on_ (.store 3 (.t 4) (.t 13)) [0,0],om_ 5 14 [1,2,0,1,2]]) .ret) .skip))) (.seq (.reg false [oo_ 15 (.load true 3 (.t 2)) [],oo_ 16 (.call 56 [(.t 15)])
 [0],om_ 17 1 [],oo_ 18 (.inv (.t 16) "tallymark/chain.value" [(.t 17)]) [1,2,1],oo_ 19 (.ext (.t 18) 0) [3],oo_ 20 (.ext (.t 18) 1) [3],on_ (.store 3 (.t 4) (.t 19)) [4,3,0,1,2,3,4,5],om_ 5 20 [5,6,0,1,2,3,4,5,6]])
 .ret)))
theorem o_eu : fnOf Tryz.prog o_es = some (o_et, [.cell 4 true 3, .t 5], 21, false) := by kernel_rfl

abbrev o_ev : FuncId := 199
def o_ew : C := (.seq (.reg false [oo_ 6 (.mv (.d (.int .u64 0))) [],oo_ 7 (.mv (.d (.int .u64 0))) [0]]) (.seq (.seq (.reg false [om_ 19 2 [],oo_ 20 (.bin .eql (.t 19) (.d (.int .u64 0))) [0]]) (.cond (.t 20) (.reg false [oo_ 21
 (.load false 1 .bad) [],on_ (.bad) [0]]) .skip)) (.seq (.seq (.reg false [om_ 22 2 [],om_ 23 0 [],oo_ 24 (.bin .leq (.t 22) (.t 23)) [0,1]]) (.cond (.t 24) (.reg false [oo_ 25 (.load false 1 .bad) [],on_ (.bad) [0]])
 .skip)) (.seq (.seq (.reg false [om_ 26 0 [],oo_ 27 (.bin .eql (.t 26) (.d (.int .u64 0))) [0]]) (.cond (.t 27) (.seq (.reg true [om_ 28 1 [],om_ 29 2 [],oo_ 30 (.bin .quo (.t 28) (.t 29)) [0,1],om_ 31 1 [],om_ 32 2
 [],oo_ 33 (.bin .rem (.t 31) (.t 32)) [3,4],om_ 6 30 [2,0,1,2],om_ 7 33 [5,6,0,1,2,3,4,5,6]]) .ret) .skip)) (.seq (.reg false [om_ 34 2 [],oo_ 35 (.call 221 [(.t 34)]) [0],oo_ 36 (.conv .u64 (.t 35)) [1],om_ 8 36
 [2,1,0,1,2]]) (.seq (.reg false [om_ 37 2 [],om_ 38 8 [],oo_ 39 (.bin .shl (.t 37) (.t 38)) [0,1],om_ 2 39 [2,0,1,2]]) (.seq (.reg false [om_ 40 2 [],oo_ 41 (.bin .shr (.t 40) (.d (.int .u64 32))) [0],om_ 9 41 [1,0,1]])
 (.seq (.reg false [om_ 42 2 [],oo_ 43 (.bin .and (.t 42) (.d (.int .u64 4294967295))) [0],om_ 10 43 [1,0,1]]) (.seq (.reg false [om_ 44 0 [],om_ 45 8 [],oo_ 46 (.bin .shl (.t 44) (.t 45)) [0,1],om_ 47 1 [],om_ 48 8
 [],oo_ 49 (.bin .sub (.d (.int .u64 64)) (.t 48)) [4],oo_ 50 (.bin .shr (.t 47) (.t 49)) [3,5],oo_ 51 (.bin .or (.t 46) (.t 50)) [2,6],om_ 11 51 [7,0,1,2,3,4,5,6,7]]) (.seq (.reg false [om_ 52 1 [],om_ 53 8 [],oo_ 54
 (.bin .shl (.t 52) (.t 53)) [0,1],om_ 12 54 [2,0,1,2]]) (.seq (.reg false [om_ 55 12 [],oo_ 56 (.bin .shr (.t 55) (.d (.int .u64 32))) [0],om_ 13 56 [1,0,1]]) (.seq (.reg false [om_ 57 12 [],oo_ 58 (.bin .and (.t 57)
 (.d (.int .u64 4294967295))) [0],om_ 14 58 [1,0,1]]) (.seq (.reg false [om_ 59 11 [],om_ 60 9 [],oo_ 61 (.bin .quo (.t 59) (.t 60)) [0,1],om_ 15 61 [2,0,1,2]]) (.seq (.reg false [om_ 62 11 [],om_ 63 15 [],om_ 64 9
 [],oo_ 65 (.bin .mul (.t 63) (.t 64)) [1,2],oo_ 66 (.bin .sub (.t 62) (.t 65)) [0,3],om_ 16 66 [4,0,1,2,3,4]]) (.seq (.block 0 (.loop (.seq (.seq (.reg false [om_ 67 15 [],oo_ 68 (.bin .geq (.t 67) (.d (.int .u64
 4294967296))) [0],om_ 69 68 [1],og_ 70 (.mv (.t 15)) 69 false [2],og_ 71 (.mv (.t 10)) 69 false [2],og_ 72 (.bin .mul (.t 70) (.t 71)) 69 false [3,4,2],og_ 73 (.mv (.t 16)) 69 false [2],og_ 74 (.bin .mul (.d (.int .u64
 4294967296)) (.t 73)) 69 false [6,2],og_ 75 (.mv (.t 13)) 69 false [2],og_ 76 (.bin .add (.t 74) (.t 75)) 69 false [7,8,2],og_ 77 (.bin .gtr (.t 72) (.t 76)) 69 false [5,9,2],oo_ 78 (.pick (.t 69) (.d (.bool true)) (.t
 77)) [2,10]]) (.cond (.t 78) .skip (.exit 0))) (.block 1 (.seq (.reg false [om_ 79 15 [],oo_ 80 (.bin .sub (.t 79) (.d (.int .u64 1))) [0],om_ 15 80 [1,0,1]]) (.seq (.reg false [om_ 81 16 [],om_ 82 9 [],oo_ 83 (.bin
 .add (.t 81) (.t 82)) [0,1],om_ 16 83 [2,0,1,2]]) (.seq (.reg false [om_ 84 16 [],oo_ 85 (.bin .geq (.t 84) (.d (.int .u64 4294967296))) [0]]) (.cond (.t 85) (.exit 0) .skip)))))))) (.seq (.reg false [om_ 86 11 [],oo_
 87 (.bin .mul (.t 86) (.d (.int .u64 4294967296))) [0],om_ 88 13 [],oo_ 89 (.bin .add (.t 87) (.t 88)) [1,2],om_ 90 15 [],om_ 91 2 [],oo_ 92 (.bin .mul (.t 90) (.t 91)) [4,5],oo_ 93 (.bin .sub (.t 89) (.t 92)) [3,6],om_
 17 93 [7,0,1,2,3,4,5,6,7]]) (.seq (.reg false [om_ 94 17 [],om_ 95 9 [],oo_ 96 (.bin .quo (.t 94) (.t 95)) [0,1],om_ 18 96 [2,0,1,2]]) (.seq (.reg false [om_ 97 17 [],om_ 98 18 [],om_ 99 9 [],oo_ 100 (.bin .mul (.t 98)
 (.t 99)) [1,2],oo_ 101 (.bin .sub (.t 97) (.t 100)) [0,3],om_ 16 101 [4,0,1,2,3,4]]) (.seq (.block 2 (.loop (.seq (.seq (.reg false [om_ 102 18 [],oo_ 103 (.bin .geq (.t 102) (.d (.int .u64 4294967296))) [0],om_ 104 103
 [1],og_ 105 (.mv (.t 18)) 104 false [2],og_ 106 (.mv (.t 10)) 104 false [2],og_ 107 (.bin .mul (.t 105) (.t 106)) 104 false [3,4,2],og_ 108 (.mv (.t 16)) 104 false [2],og_ 109 (.bin .mul (.d (.int .u64 4294967296)) (.t
 108)) 104 false [6,2],og_ 110 (.mv (.t 14)) 104 false [2],og_ 111 (.bin .add (.t 109) (.t 110)) 104 false [7,8,2],og_ 112 (.bin .gtr (.t 107) (.t 111)) 104 false [5,9,2],oo_ 113 (.pick (.t 104) (.d (.bool true)) (.t
 112)) [2,10]]) (.cond (.t 113) .skip (.exit 2))) (.block 3 (.seq (.reg false [om_ 114 18 [],oo_ 115 (.bin .sub (.t 114) (.d (.int .u64 1))) [0],om_ 18 115 [1,0,1]]) (.seq (.reg false [om_ 116 16 [],om_ 117 9 [],oo_ 118
 (.bin .add (.t 116) (.t 117)) [0,1],om_ 16 118 [2,0,1,2]]) (.seq (.reg false [om_ 119 16 [],oo_ 120 (.bin .geq (.t 119) (.d (.int .u64 4294967296))) [0]]) (.cond (.t 120) (.exit 2) .skip)))))))) (.seq (.reg false [om_
 121 15 [],oo_ 122 (.bin .mul (.t 121) (.d (.int .u64 4294967296))) [0],om_ 123 18 [],oo_ 124 (.bin .add (.t 122) (.t 123)) [1,2],om_ 125 17 [],oo_ 126 (.bin .mul (.t 125) (.d (.int .u64 4294967296))) [4],om_ 127 14
 [],oo_ 128 (.bin .add (.t 126) (.t 127)) [5,6],om_ 129 18 [],om_ 130 2 [],oo_ 131 (.bin .mul (.t 129) (.t 130)) [8,9],oo_ 132 (.bin .sub (.t 128) (.t 131)) [7,10],om_ 133 8 [],oo_ 134 (.bin .shr (.t 132) (.t 133))
 [11,12],om_ 6 124 [3,0,1,2,3],om_ 7 134 [13,14,0,1,2,3,4,5,6,7,8,9,10,11,12,13,14]]) .ret))))))))))))))))))))
theorem o_ex : fnOf Tryz.prog o_ev = some (o_ew, [.t 6, .t 7], 135, false) := by kernel_rfl

abbrev o_ey : FuncId := 200
def o_ez : C := (.seq (.reg false [⟨some 4,.mv (.d (.str ⟨#[]⟩)),none,[]⟩]) (.seq (.seq (.reg false [om_ 9 1 [],oo_ 10 (.bin .eql (.t 9) (.d (.int .i64 10))) [0]]) (.cond (.t 10) (.seq (.seq (.reg false [om_ 11 0 [],oo_ 12 (.bin .lss
 (.t 11) (.d (.int .u64 100))) [0]]) (.cond (.t 12) (.seq (.reg false [om_ 13 0 [],oo_ 14 (.conv .i64 (.t 13)) [0],oo_ 15 (.call 222 [(.t 14)]) [1],om_ 4 15 [2,2,0,1,2]]) .ret) .skip)) (.seq (.reg false [oo_ 5 (.new 276
 [(.int .u8 0),(.int .u8 0),(.int .u8 0),(.int .u8 0),(.int .u8 0),(.int .u8 0),(.int .u8 0),(.int .u8 0),(.int .u8 0),(.int .u8 0),(.int .u8 0),(.int .u8 0),(.int .u8 0),(.int .u8 0),(.int .u8 0),(.int .u8 0),(.int .u8
 0),(.int .u8 0),(.int .u8 0),(.int .u8 0),(.int .u8 0),(.int .u8 0),(.int .u8 0),(.int .u8 0)]) []]) (.seq (.reg false [om_ 16 0 [],oo_ 17 (.call 223 [(.t 16)]) [0],om_ 6 17 [1,1,0,1]]) (.seq (.reg false [om_ 18 6
 [],oo_ 19 (.sla 24 1 (.t 5) none (some (.t 18))) [0],om_ 20 0 [],oo_ 21 (.call 224 [(.t 19),(.t 20)]) [1,2]]) (.seq (.reg false [om_ 22 6 [],oo_ 23 (.sla 24 1 (.t 5) none (some (.t 22))) [0],oo_ 24 (.bstr (.t 23))
 [1],om_ 4 24 [2,0,1,2]]) .ret))))) .skip)) (.seq (.reg false [om_ 26 0 [],om_ 27 1 [],oo_ 28 (.call 225 [(.d .nilsl),(.t 26),(.t 27),(.d (.bool false)),(.d (.bool false))]) [0,1],om_ 25 28 [2],oo_ 29 (.ext (.t 25) 0)
 [3],oo_ 30 (.ext (.t 25) 1) [3],om_ 7 29 [4,2,0,1,2,3,4],om_ 8 30 [5,6,0,1,2,3,4,5,6]]) (.seq (.reg false [om_ 31 8 [],om_ 4 31 [0,0]]) .ret))))
theorem o_f0 : fnOf Tryz.prog o_ey = some (o_ez, [.t 4], 32, false) := by kernel_rfl

abbrev o_f1 : FuncId := 201
def o_f2 : C := (.seq (.reg false [oo_ 4 (.mv (.d (.int .u64 0))) [],oo_ 5 (.mv (.d (.int .u64 0))) [0]]) (.seq (.cond (.d (.bool false)) (.seq (.reg false [om_ 11 0 [],oo_ 12 (.conv .u32 (.t 11)) [0],om_ 13 1 [],oo_ 14 (.conv .u32 (.t
 13)) [2],oo_ 15 (.call 226 [(.t 12),(.t 14)]) [1,3],om_ 10 15 [4],oo_ 16 (.ext (.t 10) 0) [5],oo_ 17 (.ext (.t 10) 1) [5],om_ 6 16 [6,4,0,1,2,3,4,5,6],om_ 7 17 [7,8,0,1,2,3,4,5,6,7,8]]) (.seq (.reg false [om_ 18 6
 [],oo_ 19 (.conv .u64 (.t 18)) [0],om_ 20 7 [],oo_ 21 (.conv .u64 (.t 20)) [2],om_ 4 19 [1,0,1],om_ 5 21 [3,4,0,1,2,3,4]]) .ret)) .skip) (.seq (.reg false [om_ 23 0 [],om_ 24 1 [],oo_ 25 (.call 165 [(.t 23),(.t 24)])
 [0,1],om_ 22 25 [2],oo_ 26 (.ext (.t 22) 0) [3],oo_ 27 (.ext (.t 22) 1) [3],om_ 8 26 [4,2,0,1,2,3,4],om_ 9 27 [5,6,0,1,2,3,4,5,6]]) (.seq (.reg false [om_ 28 8 [],om_ 29 9 [],om_ 4 28 [0,0],om_ 5 29 [1,2,0,1,2]])
 .ret))))
theorem o_f3 : fnOf Tryz.prog o_f1 = some (o_f2, [.t 4, .t 5], 30, false) := by kernel_rfl

abbrev o_f4 : FuncId := 202
def o_f5 : C := (.seq (.reg false [oo_ 4 (.mv (.d (.bool false))) []]) (.seq (.reg false [om_ 5 0 [],om_ 6 1 [],oo_ 7 (.call 227 [(.t 5),(.t 6)]) [0,1],om_ 4 7 [2,2,0,1,2]]) .ret))
theorem o_f6 : fnOf Tryz.prog o_f4 = some (o_f5, [.t 4], 8, false) := by kernel_rfl

abbrev o_f7 : FuncId := 207
def o_f8 : C := (.seq (.reg false [oo_ 2 (.box 43 (.t 0)) [],oo_ 3 (.box 43 (.t 1)) [],oo_ 4 (.new 43 [.nilsl]) [],oo_ 5 (.new 43 [.nilsl]) [],oo_ 6 (.mv (.d (.int .i64 0))) []]) (.seq (.reg false [oo_ 13 (.fa 0 (.t 3)) [],oo_ 14
 (.load false 1 (.t 13)) [0],oo_ 15 (.len (.t 14)) [1],om_ 7 15 [2,0,1,2]]) (.seq (.reg false [oo_ 16 (.fa 0 (.t 3)) [],oo_ 17 (.load false 1 (.t 16)) [0],om_ 18 7 [],oo_ 19 (.bin .sub (.t 18) (.d (.int .i64 1))) [2],oo_
 20 (.ix 1 (.t 17) (.t 19)) [1,3],oo_ 21 (.load false 1 (.t 20)) [4],oo_ 22 (.call 221 [(.t 21)]) [5],om_ 8 22 [6,6,0,1,2,3,4,5,6]]) (.seq (.reg false [oo_ 23 (.fa 0 (.t 3)) [],oo_ 24 (.load false 1 (.t 23)) [0],om_ 25 8
 [],oo_ 26 (.call 230 [(.t 24),(.t 25)]) [1,2],om_ 27 7 [],oo_ 28 (.slice 1 (.t 26) none (some (.t 27)) none) [3,4],om_ 9 28 [5,3,0,1,2,3,4,5]]) (.seq (.reg false [oo_ 29 (.fa 0 (.t 2)) [],oo_ 30 (.load false 1 (.t 29))
 [0],om_ 31 8 [],oo_ 32 (.call 230 [(.t 30),(.t 31)]) [1,2],om_ 10 32 [3,3,0,1,2,3]]) (.seq (.reg false [om_ 33 10 [],oo_ 34 (.len (.t 33)) [0],om_ 35 7 [],oo_ 36 (.bin .sub (.t 34) (.t 35)) [1,2],oo_ 37 (.mksl 199 1 8
 [(.int .u64 0)] (.t 36) (.t 36)) [3,3],om_ 11 37 [4,0,1,2,3,4]]) (.seq (.seq (.reg false [om_ 38 11 [],oo_ 39 (.len (.t 38)) [0],oo_ 40 (.bin .sub (.t 39) (.d (.int .i64 1))) [1],om_ 12 40 [2,0,1,2]]) (.block 0 (.loop
 (.seq (.seq (.reg false [om_ 41 12 [],oo_ 42 (.bin .geq (.t 41) (.d (.int .i64 0))) [0]]) (.cond (.t 42) .skip (.exit 0))) (.seq (.block 1 (.reg false [om_ 45 11 [],om_ 46 12 [],om_ 47 10 [],om_ 48 12 [],om_ 49 12
 [],om_ 50 7 [],oo_ 51 (.bin .add (.t 49) (.t 50)) [4,5],oo_ 52 (.bin .add (.t 51) (.d (.int .i64 1))) [6],oo_ 53 (.slice 1 (.t 47) (some (.t 48)) (some (.t 52)) none) [2,3,7],om_ 54 9 [],oo_ 55 (.call 231 [(.t 53),(.t
 54)]) [8,9],oo_ 56 (.ix 1 (.t 45) (.t 46)) [0,1,0,1,2,3,4,5,6,7,8,9,10],on_ (.store 1 (.t 56) (.t 55)) [11,10,10,0,1,2,3,4,5,6,7,8,9,10]])) (.reg false [om_ 43 12 [],oo_ 44 (.bin .sub (.t 43) (.d (.int .i64 1))) [0],om_
 12 44 [1,0,1]])))))) (.seq (.reg true [om_ 57 11 [],oo_ 58 (.call 159 [(.t 57)]) [0],om_ 59 10 [],om_ 60 7 [],oo_ 61 (.slice 1 (.t 59) none (some (.t 60)) none) [2,3],oo_ 62 (.call 159 [(.t 61)]) [4,1],om_ 63 8 [],oo_
 64 (.call 232 [(.t 62),(.t 63)]) [5,6,5],on_ (.store 1 (.t 4) (.t 58)) [1,7,0,1],on_ (.store 1 (.t 5) (.t 64)) [7,8,0,1,2,3,4,5,6,7,8],oo_ 6 (.mv (.d (.int .i64 0))) [9,0,1,2,3,4,5,6,7,8,9]]) .ret))))))))
theorem o_f9 : fnOf Tryz.prog o_f7 = some (o_f8, [.cell 4 true 1, .cell 5 true 1, .t 6], 65, false) := by kernel_rfl

abbrev o_fa : FuncId := 211
def o_fb : C := (.seq (.reg false [oo_ 2 (.box 43 (.t 0)) [],oo_ 4 (.new 43 [.nilsl]) [],oo_ 5 (.mv (.d (.int .i64 0))) []]) (.seq (.seq (.reg false [om_ 6 1 [],oo_ 7 (.bin .lss (.t 6) (.d (.int .i64 0))) [0],om_ 8 7 [1],og_ 9 (.mv (.t
 1)) 8 false [2],og_ 10 (.bin .gtr (.t 9) (.d (.int .i64 8192))) 8 false [3,2],oo_ 11 (.pick (.t 8) (.d (.bool true)) (.t 10)) [2,4]]) (.cond (.t 11) (.seq (.reg false [oo_ 12 (.build [.nilsl] []) [],on_ (.store 1 (.t 4)
 (.t 12)) [0,0],oo_ 5 (.mv (.d (.int .i64 2))) [1,0,1]]) .ret) .skip)) (.seq (.reg true [om_ 13 1 [],oo_ 14 (.bin .quo (.t 13) (.d (.int .i64 64))) [0],oo_ 15 (.mksl 199 1 8 [(.int .u64 0)] (.t 14) (.t 14)) [1,1],oo_ 16
 (.fa 0 (.t 2)) [],oo_ 17 (.load false 1 (.t 16)) [3],om_ 18 1 [],oo_ 19 (.bin .rem (.t 18) (.d (.int .i64 64))) [5],oo_ 20 (.call 230 [(.t 17),(.t 19)]) [4,6],oo_ 21 (.app 199 1 8 (.t 15) (.t 20)) [2,7,7],oo_ 22 (.call
 159 [(.t 21)]) [8,8],on_ (.store 1 (.t 4) (.t 22)) [9,9,0,1,2,3,4,5,6,7,8,9],oo_ 5 (.mv (.d (.int .i64 0))) [10,0,1,2,3,4,5,6,7,8,9,10]]) .ret)))
theorem o_fc : fnOf Tryz.prog o_fa = some (o_fb, [.cell 4 true 1, .t 5], 23, false) := by kernel_rfl

abbrev o_fd : FuncId := 220
def o_fe : C := (.seq (.reg false [oo_ 2 (.mv (.d (.bool false))) []]) (.seq (.reg false [om_ 3 0 [],om_ 4 0 [],oo_ 5 (.bin .neq (.t 3) (.t 4)) [0,1],om_ 2 5 [2,0,1,2]]) .ret))
theorem o_ff : fnOf Tryz.prog o_fd = some (o_fe, [.t 2], 6, false) := by kernel_rfl

abbrev o_fg : FuncId := 221
def o_fh : C := (.seq (.reg false [oo_ 2 (.mv (.d (.int .i64 0))) []]) (.seq (.reg false [om_ 3 0 [],oo_ 4 (.call 173 [(.t 3)]) [0],oo_ 5 (.bin .sub (.d (.int .i64 64)) (.t 4)) [1],om_ 2 5 [2,1,0,1,2]]) .ret))
theorem o_fi : fnOf Tryz.prog o_fg = some (o_fh, [.t 2], 6, false) := by kernel_rfl

abbrev o_fj : FuncId := 222
def o_fk : C := (.seq (.reg false [⟨some 2,.mv (.d (.str ⟨#[]⟩)),none,[]⟩]) (.seq (.seq (.reg false [om_ 3 0 [],oo_ 4 (.bin .lss (.t 3) (.d (.int .i64 10))) [0]]) (.cond (.t 4) (.seq (.reg false [om_ 5 0 [],om_ 6 0 [],oo_ 7 (.bin .add
 (.t 6) (.d (.int .i64 1))) [1],⟨some 8,.sstr (.d (.str ⟨#[48,49,50,51,52,53,54,55,56,57,97,98,99,100,101,102,103,104,105,106,107,108,109,110,111,112,113,114,115,116,117,118,119,120,121,122]⟩)) (some (.t 5)) (some (.t
 7)),none,[0,2]⟩,om_ 2 8 [3,0,1,2,3]]) .ret) .skip)) (.seq (.reg false [om_ 9 0 [],oo_ 10 (.bin .mul (.t 9) (.d (.int .i64 2))) [0],om_ 11 0 [],oo_ 12 (.bin .mul (.t 11) (.d (.int .i64 2))) [2],oo_ 13 (.bin .add (.t 12)
 (.d (.int .i64 2))) [3],⟨some 14,.sstr (.d (.str
 ⟨#[48,48,48,49,48,50,48,51,48,52,48,53,48,54,48,55,48,56,48,57,49,48,49,49,49,50,49,51,49,52,49,53,49,54,49,55,49,56,49,57,50,48,50,49,50,50,50,51,50,52,50,53,50,54,50,55,50,56,50,57,51,48,51,49,51,50,51,51,51,52,51,53,51,54,51,55,51,56,51,57,52,48,52,49,52,50,52,51,52,52,52,53,52,54,52,55,52,56,52,57,53,48,53,49,53,50,53,51,53,52,53,53,53,54,53,55,53,56,53,57,54,48,54,49,54,50,54,51,54,52,54,53,54,54,54,55,54,56,54,57,55,48,55,49,55,50,55,51,55,52,55,53,55,54,55,55,55,56,55,57,56,48,56,49,56,50,56,51,56,52,56,53,56,54,56,55,56,56,56,57,57,48,57,49,57,50,57,51,57,52,57,53,57,54,57,55,57,56,57,57]⟩)) (some (.t 10)) (some (.t 13)),none,[1,4]⟩,om_ 2 14 [5,0,1,2,3,4,5]]) .ret)))
theorem o_fl : fnOf Tryz.prog o_fj = some (o_fk, [.t 2], 15, false) := by kernel_rfl

abbrev o_fm : FuncId := 223
def o_fn : C := (.seq (.reg false [oo_ 2 (.mv (.d (.int .i64 0))) []]) (.seq (.reg false [om_ 4 0 [],oo_ 5 (.call 173 [(.t 4)]) [0],oo_ 6 (.call 239 [(.t 5)]) [1,1],om_ 3 6 [2,2,0,1,2]]) (.seq (.reg false [om_ 7 3 [],om_ 8 0 [],om_ 9 3
 [],oo_ 10 (.gix [(.int .u64 1),(.int .u64 10),(.int .u64 100),(.int .u64 1000),(.int .u64 10000),(.int .u64 100000),(.int .u64 1000000),(.int .u64 10000000),(.int .u64 100000000),(.int .u64 1000000000),(.int .u64
 10000000000),(.int .u64 100000000000),(.int .u64 1000000000000),(.int .u64 10000000000000),(.int .u64 100000000000000),(.int .u64 1000000000000000),(.int .u64 10000000000000000),(.int .u64 100000000000000000),(.int .u64
 1000000000000000000),(.int .u64 10000000000000000000)] 20 1 (.t 9)) [2],oo_ 11 (.load false 1 (.t 10)) [3],oo_ 12 (.bin .geq (.t 8) (.t 11)) [1,4],oo_ 13 (.call 240 [(.t 12)]) [5],oo_ 14 (.bin .add (.t 7) (.t 13))
 [0,6],om_ 2 14 [7,6,0,1,2,3,4,5,6,7]]) .ret)))
theorem o_fo : fnOf Tryz.prog o_fm = some (o_fn, [.t 2], 15, false) := by kernel_rfl

abbrev o_fp : FuncId := 224
def o_fq : C := (.seq (.reg false [om_ 17 0 [],oo_ 18 (.len (.t 17)) [0],om_ 4 18 [1,0,1]]) (.seq (.block 0 (.loop (.seq (.seq (.reg false [om_ 19 4 [],oo_ 20 (.bin .geq (.t 19) (.d (.int .i64 8))) [0]]) (.cond (.t 20) .skip (.exit
 0))) (.block 1 (.seq (.reg false [om_ 21 1 [],oo_ 22 (.bin .rem (.t 21) (.d (.int .u64 100000000))) [0],oo_ 23 (.conv .u32 (.t 22)) [1],om_ 5 23 [2,0,1,2]]) (.seq (.reg false [om_ 24 1 [],oo_ 25 (.bin .quo (.t 24) (.d
 (.int .u64 100000000))) [0],om_ 1 25 [1,0,1]]) (.seq (.reg false [om_ 26 5 [],oo_ 27 (.bin .quo (.t 26) (.d (.int .u32 10000))) [0],om_ 28 5 [],oo_ 29 (.bin .rem (.t 28) (.d (.int .u32 10000))) [2],om_ 6 27 [1,0,1],om_
 7 29 [3,4,0,1,2,3,4]]) (.seq (.reg false [om_ 30 7 [],oo_ 31 (.bin .quo (.t 30) (.d (.int .u32 100))) [0],oo_ 32 (.bin .mul (.t 31) (.d (.int .u32 2))) [1],om_ 33 7 [],oo_ 34 (.bin .rem (.t 33) (.d (.int .u32 100)))
 [3],oo_ 35 (.bin .mul (.t 34) (.d (.int .u32 2))) [4],om_ 8 32 [2,0,1,2],om_ 9 35 [5,6,0,1,2,3,4,5,6]]) (.seq (.reg false [om_ 36 6 [],oo_ 37 (.bin .quo (.t 36) (.d (.int .u32 100))) [0],oo_ 38 (.bin .mul (.t 37) (.d
 (.int .u32 2))) [1],om_ 39 6 [],oo_ 40 (.bin .rem (.t 39) (.d (.int .u32 100))) [3],oo_ 41 (.bin .mul (.t 40) (.d (.int .u32 2))) [4],om_ 10 38 [2,0,1,2],om_ 11 41 [5,6,0,1,2,3,4,5,6]]) (.seq (.reg true [om_ 42 0 [],om_
 43 4 [],oo_ 44 (.bin .sub (.t 43) (.d (.int .i64 1))) [1],om_ 45 0 [],om_ 46 4 [],oo_ 47 (.bin .sub (.t 46) (.d (.int .i64 2))) [4],om_ 48 9 [],oo_ 49 (.bin .add (.t 48) (.d (.int .u32 1))) [6],⟨some 50,.gstr (.d (.str
 ⟨#[48,48,48,49,48,50,48,51,48,52,48,53,48,54,48,55,48,56,48,57,49,48,49,49,49,50,49,51,49,52,49,53,49,54,49,55,49,56,49,57,50,48,50,49,50,50,50,51,50,52,50,53,50,54,50,55,50,56,50,57,51,48,51,49,51,50,51,51,51,52,51,53,51,54,51,55,51,56,51,57,52,48,52,49,52,50,52,51,52,52,52,53,52,54,52,55,52,56,52,57,53,48,53,49,53,50,53,51,53,52,53,53,53,54,53,55,53,56,53,57,54,48,54,49,54,50,54,51,54,52,54,53,54,54,54,55,54,56,54,57,55,48,55,49,55,50,55,51,55,52,55,53,55,54,55,55,55,56,55,57,56,48,56,49,56,50,56,51,56,52,56,53,56,54,56,55,56,56,56,57,57,48,57,49,57,50,57,51,57,52,57,53,57,54,57,55,57,56,57,57]⟩)) (.t 49),none,[7]⟩,om_ 51 9 [],⟨some 52,.gstr (.d (.str ⟨#[48,48,48,49,48,50,48,51,48,52,48,53,48,54,48,55,48,56,48,57,49,48,49,49,49,50,49,51,49,52,49,53,49,54,49,55,49,56,49,57,50,48,50,49,50,50,50,51,50,52,50,53,50,54,50,55,50,56,50,57,51,48,51,49,51,50,51,51,51,52,51,53,51,54,51,55,51,56,51,57,52,48,52,49,52,50,52,51,52,52,52,53,52,54,52,55,52,56,52,57,53,48,53,49,53,50,53,51,53,52,53,53,53,54,53,55,53,56,53,57,54,48,54,49,54,50,54,51,54,52,54,53,54,54,54,55,54,56,54,57,55,48,55,49,55,50,55,51,55,52,55,53,55,54,55,55,55,56,55,57,56,48,56,49,56,50,56,51,56,52,56,53,56,54,56,55,56,56,56,57,57,48,57,49,57,50,57,51,57,52,57,53,57,54,57,55,57,56,57,57]⟩)) (.t 51),none,[9]⟩,oo_ 53 (.ix 1 (.t 42) (.t 44)) [0,2,0,1,2,6,7,8],on_ (.store 1 (.t 53) (.t 50)) [11,8,0,1,2,6,7,8],oo_ 54 (.ix 1 (.t 45) (.t 47)) [3,5,0,1,2,3,4,5,6,7,8,9,10,11,12],on_ (.store 1 (.t 54) (.t 52)) [13,10,12,0,1,2,3,4,5,6,7,8,9,10,11,12]]) (.seq (.reg true [om_ 55 0 [],om_ 56 4 [],oo_ 57 (.bin .sub (.t 56) (.d (.int .i64 3))) [1],om_ 58 0 [],om_ 59 4 [],oo_ 60 (.bin .sub (.t 59) (.d (.int .i64 4))) [4],om_ 61 8 [],oo_ 62 (.bin .add (.t 61) (.d (.int .u32 1))) [6],⟨some 63,.gstr (.d (.str ⟨#[48,48,48,49,48,50,48,51,48,52,48,53,48,54,48,55,48,56,48,57,49,48,49,49,49,50,49,51,49,52,49,53,49,54,49,55,49,56,49,57,50,48,50,49,50,50,50,51,50,52,50,53,50,54,50,55,50,56,50,57,51,48,51,49,51,50,51,51,51,52,51,53,51,54,51,55,51,56,51,57,52,48,52,49,52,50,52,51,52,52,52,53,52,54,52,55,52,56,52,57,53,48,53,49,53,50,53,51,53,52,53,53,53,54,53,55,53,56,53,57,54,48,54,49,54,50,54,51,54,52,54,53,54,54,54,55,54,56,54,57,55,48,55,49,55,50,55,51,55,52,55,53,55,54,55,55,55,56,55,57,56,48,56,49,56,50,56,51,56,52,56,53,56,54,56,55,56,56,56,57,57,48,57,49,57,50,57,51,57,52,57,53,57,54,57,55,57,56,57,57]⟩)) (.t 62),none,[7]⟩,om_ 64 8 [],⟨some 65,.gstr (.d (.str ⟨#[48,48,48,49,48,50,48,51,48,52,48,53,48,54,48,55,48,56,48,57,49,48,49,49,49,50,49,51,49,52,49,53,49,54,49,55,49,56,49,57,50,48,50,49,50,50,50,51,50,52,50,53,50,54,50,55,50,56,50,57,51,48,51,49,51,50,51,51,51,52,51,53,51,54,51,55,51,56,51,57,52,48,52,49,52,50,52,51,52,52,52,53,52,54,52,55,52,56,52,57,53,48,53,49,53,50,53,51,53,52,53,53,53,54,53,55,53,56,53,57,54,48,54,49,54,50,54,51,54,52,54,53,54,54,54,55,54,56,54,57,55,48,55,49,55,50,55,51,55,52,55,53,55,54,55,55,55,56,55,57,56,48,56,49,56,50,56,51,56,52,56,53,56,54,56,55,56,56,56,57,57,48,57,49,57,50,57,51,57,52,57,53,57,54,57,55,57,56,57,57]⟩)) (.t 64),none,[9]⟩,oo_ 66 (.ix 1 (.t 55) (.t 57)) [0,2,0,1,2,6,7,8],on_ (.store 1 (.t 66) (.t 63)) [11,8,0,1,2,6,7,8],oo_ 67 (.ix 1 (.t 58) (.t 60)) [3,5,0,1,2,3,4,5,6,7,8,9,10,11,12],on_ (.store 1 (.t 67) (.t 65)) [13,10,12,0,1,2,3,4,5,6,7,8,9,10,11,12]]) (.seq (.reg true [om_ 68 0 [],om_ 69 4 [],oo_ 70 (.bin .sub (.t 69) (.d (.int .i64 5))) [1],om_ 71 0 [],om_ 72 4 [],oo_ 73 (.bin .sub (.t 72) (.d (.int .i64 6))) [4],om_ 74 11 [],oo_ 75 (.bin .add (.t 74) (.d (.int .u32 1))) [6],⟨some 76,.gstr (.d (.str ⟨#[48,48,48,49,48,50,48,51,48,52,48,53,48,54,48,55,48,56,48,57,49,48,49,49,49,50,49,51,49,52,49,53,49,54,49,55,49,56,49,57,50,48,50,49,50,50,50,51,50,52,50,53,50,54,50,55,50,56,50,57,51,48,51,49,51,50,51,51,51,52,51,53,51,54,51,55,51,56,51,57,52,48,52,49,52,50,52,51,52,52,52,53,52,54,52,55,52,56,52,57,53,48,53,49,53,50,53,51,53,52,53,53,53,54,53,55,53,56,53,57,54,48,54,49,54,50,54,51,54,52,54,53,54,54,54,55,54,56,54,57,55,48,55,49,55,50,55,51,55,52,55,53,55,54,55,55,55,56,55,57,56,48,56,49,56,50,56,51,56,52,56,53,56,54,56,55,56,56,56,57,57,48,57,49,57,50,57,51,57,52,57,53,57,54,57,55,57,56,57,57]⟩)) (.t 75),none,[7]⟩,om_ 77 11 [],⟨some 78,.gstr (.d (.str ⟨#[48,48,48,49,48,50,48,51,48,52,48,53,48,54,48,55,48,56,48,57,49,48,49,49,49,50,49,51,49,52,49,53,49,54,49,55,49,56,49,57,50,48,50,49,50,50,50,51,50,52,50,53,50,54,50,55,50,56,50,57,51,48,51,49,51,50,51,51,51,52,51,53,51,54,51,55,51,56,51,57,52,48,52,49,52,50,52,51,52,52,52,53,52,54,52,55,52,56,52,57,53,48,53,49,53,50,53,51,53,52,53,53,53,54,53,55,53,56,53,57,54,48,54,49,54,50,54,51,54,52,54,53,54,54,54,55,54,56,54,57,55,48,55,49,55,50,55,51,55,52,55,53,55,54,55,55,55,56,55,57,56,48,56,49,56,50,56,51,56,52,56,53,56,54,56,55,56,56,56,57,57,48,57,49,57,50,57,51,57,52,57,53,57,54,57,55,57,56,57,57]⟩)) (.t 77),none,[9]⟩,oo_ 79 (.ix 1 (.t 68) (.t 70)) [0,2,0,1,2,6,7,8],on_ (.store 1 (.t 79) (.t 76)) [11,8,0,1,2,6,7,8],oo_ 80 (.ix 1 (.t 71) (.t 73)) [3,5,0,1,2,3,4,5,6,7,8,9,10,11,12],on_ (.store 1 (.t 80) (.t 78)) [13,10,12,0,1,2,3,4,5,6,7,8,9,10,11,12]]) (.seq (.reg true [om_ 81 0 [],om_ 82 4 [],oo_ 83 (.bin .sub (.t 82) (.d (.int .i64 7))) [1],om_ 84 0 [],om_ 85 4 [],oo_ 86 (.bin .sub (.t 85) (.d (.int .i64 8))) [4],om_ 87 10 [],oo_ 88 (.bin .add (.t 87) (.d (.int .u32 1))) [6],⟨some 89,.gstr (.d (.str ⟨#[48,48,48,49,48,50,48,51,48,52,48,53,48,54,48,55,48,56,48,57,49,48,49,49,49,50,49,51,49,52,49,53,49,54,49,55,49,56,49,57,50,48,50,49,50,50,50,51,50,52,50,53,50,54,50,55,50,56,50,57,51,48,51,49,51,50,51,51,51,52,51,53,51,54,51,55,51,56,51,57,52,48,52,49,52,50,52,51,52,52,52,53,52,54,52,55,52,56,52,57,53,48,53,49,53,50,53,51,53,52,53,53,53,54,53,55,53,56,53,57,54,48,54,49,54,50,54,51,54,52,54,53,54,54,54,55,54,56,54,57,55,48,55,49,55,50,55,51,55,52,55,53,55,54,55,55,55,56,55,57,56,48,56,49,56,50,56,51,56,52,56,53,56,54,56,55,56,56,56,57,57,48,57,49,57,50,57,51,57,52,57,53,57,54,57,55,57,56,57,57]⟩)) (.t 88),none,[7]⟩,om_ 90 10 [],⟨some 91,.gstr (.d (.str ⟨#[48,48,48,49,48,50,48,51,48,52,48,53,48,54,48,55,48,56,48,57,49,48,49,49,49,50,49,51,49,52,49,53,49,54,49,55,49,56,49,57,50,48,50,49,50,50,50,51,50,52,50,53,50,54,50,55,50,56,50,57,51,48,51,49,51,50,51,51,51,52,51,53,51,54,51,55,51,56,51,57,52,48,52,49,52,50,52,51,52,52,52,53,52,54,52,55,52,56,52,57,53,48,53,49,53,50,53,51,53,52,53,53,53,54,53,55,53,56,53,57,54,48,54,49,54,50,54,51,54,52,54,53,54,54,54,55,54,56,54,57,55,48,55,49,55,50,55,51,55,52,55,53,55,54,55,55,55,56,55,57,56,48,56,49,56,50,56,51,56,52,56,53,56,54,56,55,56,56,56,57,57,48,57,49,57,50,57,51,57,52,57,53,57,54,57,55,57,56,57,57]⟩)) (.t 90),none,[9]⟩,oo_ 92 (.ix 1 (.t 81) (.t 83)) [0,2,0,1,2,6,7,8],on_ (.store 1 (.t 92) (.t 89)) [11,8,0,1,2,6,7,8],oo_ 93 (.ix 1 (.t 84) (.t 86)) [3,5,0,1,2,3,4,5,6,7,8,9,10,11,12],on_ (.store 1 (.t 93) (.t 91)) [13,10,12,0,1,2,3,4,5,6,7,8,9,10,11,12]]) (.reg false [om_ 94 4 [],oo_ 95 (.bin .sub (.t 94) (.d (.int .i64 8))) [0],om_ 4 95 [1,0,1]])))))))))))))) (.seq (.reg false [om_ 96 1 [],oo_ 97 (.conv .u32 (.t 96)) [0],om_ 12 97 [1,0,1]]) (.seq (.seq (.reg false [om_ 98 4 [],oo_ 99 (.bin .geq (.t 98) (.d (.int .i64 4))) [0]]) (.cond (.t 99) (.seq (.reg false [om_ 100 12 [],oo_ 101 (.bin .rem (.t 100) (.d (.int .u32 10000))) [0],om_ 13 101 [1,0,1]]) (.seq (.reg false [om_ 102 12 [],oo_ 103 (.bin .quo (.t 102) (.d (.int .u32 10000))) [0],om_ 12 103 [1,0,1]]) (.seq (.reg false [om_ 104 13 [],oo_ 105 (.bin .quo (.t 104) (.d (.int .u32 100))) [0],oo_ 106 (.bin .mul (.t 105) (.d (.int .u32 2))) [1],om_ 107 13 [],oo_ 108 (.bin .rem (.t 107) (.d (.int .u32 100))) [3],oo_ 109 (.bin .mul (.t 108) (.d (.int .u32 2))) [4],om_ 14 106 [2,0,1,2],om_ 15 109 [5,6,0,1,2,3,4,5,6]]) (.seq (.reg true [om_ 110 0 [],om_ 111 4 [],oo_ 112 (.bin .sub (.t 111) (.d (.int .i64 1))) [1],om_ 113 0 [],om_ 114 4 [],oo_ 115 (.bin .sub (.t 114) (.d (.int .i64 2))) [4],om_ 116 15 [],oo_ 117 (.bin .add (.t 116) (.d (.int .u32 1))) [6],⟨some 118,.gstr (.d (.str ⟨#[48,48,48,49,48,50,48,51,48,52,48,53,48,54,48,55,48,56,48,57,49,48,49,49,49,50,49,51,49,52,49,53,49,54,49,55,49,56,49,57,50,48,50,49,50,50,50,51,50,52,50,53,50,54,50,55,50,56,50,57,51,48,51,49,51,50,51,51,51,52,51,53,51,54,51,55,51,56,51,57,52,48,52,49,52,50,52,51,52,52,52,53,52,54,52,55,52,56,52,57,53,48,53,49,53,50,53,51,53,52,53,53,53,54,53,55,53,56,53,57,54,48,54,49,54,50,54,51,54,52,54,53,54,54,54,55,54,56,54,57,55,48,55,49,55,50,55,51,55,52,55,53,55,54,55,55,55,56,55,57,56,48,56,49,56,50,56,51,56,52,56,53,56,54,56,55,56,56,56,57,57,48,57,49,57,50,57,51,57,52,57,53,57,54,57,55,57,56,57,57]⟩)) (.t 117),none,[7]⟩,om_ 119 15 [],⟨some 120,.gstr (.d (.str ⟨#[48,48,48,49,48,50,48,51,48,52,48,53,48,54,48,55,48,56,48,57,49,48,49,49,49,50,49,51,49,52,49,53,49,54,49,55,49,56,49,57,50,48,50,49,50,50,50,51,50,52,50,53,50,54,50,55,50,56,50,57,51,48,51,49,51,50,51,51,51,52,51,53,51,54,51,55,51,56,51,57,52,48,52,49,52,50,52,51,52,52,52,53,52,54,52,55,52,56,52,57,53,48,53,49,53,50,53,51,53,52,53,53,53,54,53,55,53,56,53,57,54,48,54,49,54,50,54,51,54,52,54,53,54,54,54,55,54,56,54,57,55,48,55,49,55,50,55,51,55,52,55,53,55,54,55,55,55,56,55,57,56,48,56,49,56,50,56,51,56,52,56,53,56,54,56,55,56,56,56,57,57,48,57,49,57,50,57,51,57,52,57,53,57,54,57,55,57,56,57,57]⟩)) (.t 119),none,[9]⟩,oo_ 121 (.ix 1 (.t 110) (.t 112)) [0,2,0,1,2,6,7,8],on_ (.store 1 (.t 121) (.t 118)) [11,8,0,1,2,6,7,8],oo_ 122 (.ix 1 (.t 113) (.t 115)) [3,5,0,1,2,3,4,5,6,7,8,9,10,11,12],on_ (.store 1 (.t 122) (.t 120)) [13,10,12,0,1,2,3,4,5,6,7,8,9,10,11,12]]) (.seq (.reg true [om_ 123 0 [],om_ 124 4 [],oo_ 125 (.bin .sub (.t 124) (.d (.int .i64 3))) [1],om_ 126 0 [],om_ 127 4 [],oo_ 128 (.bin .sub (.t 127) (.d (.int .i64 4))) [4],om_ 129 14 [],oo_ 130 (.bin .add (.t 129) (.d (.int .u32 1))) [6],⟨some 131,.gstr (.d (.str ⟨#[48,48,48,49,48,50,48,51,48,52,48,53,48,54,48,55,48,56,48,57,49,48,49,49,49,50,49,51,49,52,49,53,49,54,49,55,49,56,49,57,50,48,50,49,50,50,50,51,50,52,50,53,50,54,50,55,50,56,50,57,51,48,51,49,51,50,51,51,51,52,51,53,51,54,51,55,51,56,51,57,52,48,52,49,52,50,52,51,52,52,52,53,52,54,52,55,52,56,52,57,53,48,53,49,53,50,53,51,53,52,53,53,53,54,53,55,53,56,53,57,54,48,54,49,54,50,54,51,54,52,54,53,54,54,54,55,54,56,54,57,55,48,55,49,55,50,55,51,55,52,55,53,55,54,55,55,55,56,55,57,56,48,56,49,56,50,56,51,56,52,56,53,56,54,56,55,56,56,56,57,57,48,57,49,57,50,57,51,57,52,57,53,57,54,57,55,57,56,57,57]⟩)) (.t 130),none,[7]⟩,om_ 132 14 [],⟨some 133,.gstr (.d (.str ⟨#[48,48,48,49,48,50,48,51,48,52,48,53,48,54,48,55,48,56,48,57,49,48,49,49,49,50,49,51,49,52,49,53,49,54,49,55,49,56,49,57,50,48,50,49,50,50,50,51,50,52,50,53,50,54,50,55,50,56,50,57,51,48,51,49,51,50,51,51,51,52,51,53,51,54,51,55,51,56,51,57,52,48,52,49,52,50,52,51,52,52,52,53,52,54,52,55,52,56,52,57,53,48,53,49,53,50,53,51,53,52,53,53,53,54,53,55,53,56,53,57,54,48,54,49,54,50,54,51,54,52,54,53,54,54,54,55,54,56,54,57,55,48,55,49,55,50,55,51,55,52,55,53,55,54,55,55,55,56,55,57,56,48,56,49,56,50,56,51,56,52,56,53,56,54,56,55,56,56,56,57,57,48,57,49,57,50,57,51,57,52,57,53,57,54,57,55,57,56,57,57]⟩)) (.t 132),none,[9]⟩,oo_ 134 (.ix 1 (.t 123) (.t 125)) [0,2,0,1,2,6,7,8],on_ (.store 1 (.t 134) (.t 131)) [11,8,0,1,2,6,7,8],oo_ 135 (.ix 1 (.t 126) (.t 128)) [3,5,0,1,2,3,4,5,6,7,8,9,10,11,12],on_ (.store 1 (.t 135) (.t 133)) [13,10,12,0,1,2,3,4,5,6,7,8,9,10,11,12]]) (.reg false [om_ 136 4 [],oo_ 137 (.bin .sub (.t 136) (.d (.int .i64 4))) [0],om_ 4 137 [1,0,1]])))))) .skip)) (.seq (.seq (.reg false [om_ 138 4 [],oo_ 139 (.bin .geq (.t 138) (.d (.int .i64 2))) [0]]) (.cond (.t 139) (.seq (.reg false [om_ 140 12 [],oo_ 141 (.bin .rem (.t 140) (.d (.int .u32 100))) [0],oo_ 142 (.bin .mul (.t 141) (.d (.int .u32 2))) [1],om_ 16 142 [2,0,1,2]]) (.seq (.reg false [om_ 143 12 [],oo_ 144 (.bin .quo (.t 143) (.d (.int .u32 100))) [0],om_ 12 144 [1,0,1]]) (.seq (.reg true [om_ 145 0 [],om_ 146 4 [],oo_ 147 (.bin .sub (.t 146) (.d (.int .i64 1))) [1],om_ 148 0 [],om_ 149 4 [],oo_ 150 (.bin .sub (.t 149) (.d (.int .i64 2))) [4],om_ 151 16 [],oo_ 152 (.bin .add (.t 151) (.d (.int .u32 1))) [6],⟨some 153,.gstr (.d (.str ⟨#[48,48,48,49,48,50,48,51,48,52,48,53,48,54,48,55,48,56,48,57,49,48,49,49,49,50,49,51,49,52,49,53,49,54,49,55,49,56,49,57,50,48,50,49,50,50,50,51,50,52,50,53,50,54,50,55,50,56,50,57,51,48,51,49,51,50,51,51,51,52,51,53,51,54,51,55,51,56,51,57,52,48,52,49,52,50,52,51,52,52,52,53,52,54,52,55,52,56,52,57,53,48,53,49,53,50,53,51,53,52,53,53,53,54,53,55,53,56,53,57,54,48,54,49,54,50,54,51,54,52,54,53,54,54,54,55,54,56,54,57,55,48,55,49,55,50,55,51,55,52,55,53,55,54,55,55,55,56,55,57,56,48,56,49,56,50,56,51,56,52,56,53,56,54,56,55,56,56,56,57,57,48,57,49,57,50,57,51,57,52,57,53,57,54,57,55,57,56,57,57]⟩)) (.t 152),none,[7]⟩,om_ 154 16 [],⟨some 155,.gstr (.d (.str ⟨#[48,48,48,49,48,50,48,51,48,52,48,53,48,54,48,55,48,56,48,57,49,48,49,49,49,50,49,51,49,52,49,53,49,54,49,55,49,56,49,57,50,48,50,49,50,50,50,51,50,52,50,53,50,54,50,55,50,56,50,57,51,48,51,49,51,50,51,51,51,52,51,53,51,54,51,55,51,56,51,57,52,48,52,49,52,50,52,51,52,52,52,53,52,54,52,55,52,56,52,57,53,48,53,49,53,50,53,51,53,52,53,53,53,54,53,55,53,56,53,57,54,48,54,49,54,50,54,51,54,52,54,53,54,54,54,55,54,56,54,57,55,48,55,49,55,50,55,51,55,52,55,53,55,54,55,55,55,56,55,57,56,48,56,49,56,50,56,51,56,52,56,53,56,54,56,55,56,56,56,57,57,48,57,49,57,50,57,51,57,52,57,53,57,54,57,55,57,56,57,57]⟩)) (.t 154),none,[9]⟩,oo_ 156 (.ix 1 (.t 145) (.t 147)) [0,2,0,1,2,6,7,8],on_ (.store 1 (.t 156) (.t 153)) [11,8,0,1,2,6,7,8],oo_ 157 (.ix 1 (.t 148) (.t 150)) [3,5,0,1,2,3,4,5,6,7,8,9,10,11,12],on_ (.store 1 (.t 157) (.t 155)) [13,10,12,0,1,2,3,4,5,6,7,8,9,10,11,12]]) (.reg false [om_ 158 4 [],oo_ 159 (.bin .sub (.t 158) (.d (.int .i64 2))) [0],om_ 4 159 [1,0,1]])))) .skip)) (.seq (.reg false [om_ 160 4 [],oo_ 161 (.bin .gtr (.t 160) (.d (.int .i64 0))) [0]]) (.cond (.t 161) (.reg false [om_ 162 0 [],om_ 163 12 [],oo_ 164 (.bin .add (.d (.int .u32 48)) (.t 163)) [1],oo_ 165 (.conv .u8 (.t 164)) [2],oo_ 166 (.ix 1 (.t 162) (.d (.int .i64 0))) [0,0,1,2,3],on_ (.store 1 (.t 166) (.t 165)) [4,3,0,1,2,3]]) .skip)))))))
theorem o_fr : fnOf Tryz.prog o_fp = some (o_fq, [], 167, false) := by kernel_rfl

abbrev o_fs : FuncId := 227
def o_ft : C := (.seq (.reg false [oo_ 4 (.mv (.d (.bool false))) []]) (.seq (.reg false [om_ 5 0 [],oo_ 6 (.lens (.t 5)) [0],om_ 7 1 [],oo_ 8 (.lens (.t 7)) [2],oo_ 9 (.bin .geq (.t 6) (.t 8)) [1,3],om_ 10 9 [4],og_ 11 (.mv (.t 0)) 10
 true [5],og_ 12 (.mv (.t 1)) 10 true [5],og_ 13 (.lens (.t 12)) 10 true [7,5],og_ 14 (.sstr (.t 11) none (some (.t 13))) 10 true [6,8,5],og_ 15 (.mv (.t 1)) 10 true [5],og_ 16 (.bin .eql (.t 14) (.t 15)) 10 true
 [9,10,5],oo_ 17 (.pick (.t 10) (.t 16) (.d (.bool false))) [5,11],om_ 4 17 [12,5,0,1,2,3,4,5,6,7,8,9,10,11,12]]) .ret))
theorem o_fu : fnOf Tryz.prog o_fs = some (o_ft, [.t 4], 18, false) := by kernel_rfl

abbrev o_fv : FuncId := 230
def o_fw : C := (.seq (.reg false [oo_ 4 (.mv (.d .nilsl)) []]) (.seq (.reg false [om_ 8 0 [],oo_ 9 (.len (.t 8)) [0],oo_ 10 (.bin .add (.t 9) (.d (.int .i64 1))) [1],oo_ 11 (.mksl 199 1 8 [(.int .u64 0)] (.t 10) (.t 10)) [2,2],om_ 5
 11 [3,0,1,2,3]]) (.seq (.seq (.reg false [om_ 12 0 [],oo_ 13 (.len (.t 12)) [0],oo_ 14 (.mv (.d (.int .i64 0))) []]) (.block 0 (.loop (.seq (.reg false [oo_ 15 (.bin .lss (.t 14) (.t 13)) []]) (.seq (.cond (.t 15) .skip
 (.exit 0)) (.seq (.block 1 (.seq (.reg false [om_ 16 14 [],oo_ 17 (.ix 1 (.t 12) (.t 14)) [],oo_ 18 (.load false 1 (.t 17)) [1],om_ 6 16 [0,0,1,2],om_ 7 18 [2,3,0,1,2,3]]) (.seq (.reg true [om_ 19 5 [],om_ 20 6 [],oo_
 21 (.ix 1 (.t 19) (.t 20)) [0,1],oo_ 22 (.load false 1 (.t 21)) [2],om_ 23 7 [],om_ 24 1 [],oo_ 25 (.bin .shl (.t 23) (.t 24)) [4,5],oo_ 26 (.bin .or (.t 22) (.t 25)) [3,6],oo_ 27 (.ix 1 (.t 19) (.t 20))
 [0,1,0,1,2,3,4,5,6,7],on_ (.store 1 (.t 27) (.t 26)) [8,7,0,1,2,3,4,5,6,7]]) (.reg false [om_ 28 5 [],om_ 29 6 [],oo_ 30 (.bin .add (.t 29) (.d (.int .i64 1))) [1],om_ 31 7 [],om_ 32 1 [],oo_ 33 (.bin .sub (.d (.int
 .i64 64)) (.t 32)) [4],oo_ 34 (.bin .shr (.t 31) (.t 33)) [3,5],oo_ 35 (.ix 1 (.t 28) (.t 30)) [0,2,0,1,2,3,4,5,6],on_ (.store 1 (.t 35) (.t 34)) [7,6,0,1,2,3,4,5,6]])))) (.reg false [oo_ 36 (.bin .add (.t 14) (.d (.int
 .i64 1))) [],om_ 14 36 [0]]))))))) (.seq (.reg false [om_ 37 5 [],om_ 4 37 [0,0]]) .ret))))
theorem o_fx : fnOf Tryz.prog o_fv = some (o_fw, [.t 4], 38, false) := by kernel_rfl

abbrev o_fy : FuncId := 231
def o_fz : C := (.seq (.reg false [oo_ 4 (.mv (.d (.int .u64 0))) []]) (.seq (.reg false [om_ 11 1 [],oo_ 12 (.len (.t 11)) [0],om_ 5 12 [1,0,1]]) (.seq (.reg false [oo_ 6 (.mv (.d (.int .u64 18446744073709551615))) []]) (.seq (.seq
 (.reg true [om_ 13 0 [],om_ 14 5 [],oo_ 15 (.ix 1 (.t 13) (.t 14)) [0,1],oo_ 16 (.load false 1 (.t 15)) [2],om_ 17 1 [],om_ 18 5 [],oo_ 19 (.bin .sub (.t 18) (.d (.int .i64 1))) [5],oo_ 20 (.ix 1 (.t 17) (.t 19))
 [4,6],oo_ 21 (.load false 1 (.t 20)) [7],oo_ 22 (.bin .lss (.t 16) (.t 21)) [3,8]]) (.cond (.t 22) (.reg true [om_ 24 0 [],om_ 25 5 [],oo_ 26 (.ix 1 (.t 24) (.t 25)) [0,1],oo_ 27 (.load false 1 (.t 26)) [2],om_ 28 0
 [],om_ 29 5 [],oo_ 30 (.bin .sub (.t 29) (.d (.int .i64 1))) [5],oo_ 31 (.ix 1 (.t 28) (.t 30)) [4,6],oo_ 32 (.load false 1 (.t 31)) [7],om_ 33 1 [],om_ 34 5 [],oo_ 35 (.bin .sub (.t 34) (.d (.int .i64 1))) [10],oo_ 36
 (.ix 1 (.t 33) (.t 35)) [9,11],oo_ 37 (.load false 1 (.t 36)) [12],oo_ 38 (.call 199 [(.t 27),(.t 32),(.t 37)]) [3,8,13],om_ 23 38 [14],oo_ 39 (.ext (.t 23) 0) [15],oo_ 40 (.ext (.t 23) 1) [15],om_ 6 39
 [16,14,0,1,2,3,4,5,6,7,8,9,10,11,12,13,14,15,16]]) .skip)) (.seq (.seq (.reg false [om_ 41 0 [],om_ 42 1 [],om_ 43 6 [],oo_ 44 (.call 245 [(.t 41),(.t 42),(.t 43)]) [0,1,2],om_ 7 44 [3,3,0,1,2,3]]) (.block 0 (.loop
 (.seq (.seq (.reg false [om_ 45 7 [],oo_ 46 (.bin .gtr (.t 45) (.d (.int .i64 0))) [0]]) (.cond (.t 46) .skip (.exit 0))) (.seq (.block 1 (.seq (.reg false [om_ 49 6 [],oo_ 50 (.bin .sub (.t 49) (.d (.int .u64 1)))
 [0],om_ 6 50 [1,0,1]]) (.seq (.reg false [oo_ 8 (.mv (.d (.int .u64 0))) []]) (.seq (.seq (.reg false [om_ 51 1 [],oo_ 52 (.len (.t 51)) [0],oo_ 53 (.mv (.d (.int .i64 0))) []]) (.block 2 (.loop (.seq (.reg false [oo_
 54 (.bin .lss (.t 53) (.t 52)) []]) (.seq (.cond (.t 54) .skip (.exit 2)) (.seq (.block 3 (.seq (.reg false [om_ 55 53 [],oo_ 56 (.ix 1 (.t 51) (.t 53)) [],oo_ 57 (.load false 1 (.t 56)) [1],om_ 9 55 [0,0,1,2],om_ 10 57
 [2,3,0,1,2,3]]) (.reg false [om_ 59 0 [],om_ 60 9 [],om_ 61 0 [],om_ 62 9 [],oo_ 63 (.ix 1 (.t 61) (.t 62)) [2,3],oo_ 64 (.load false 1 (.t 63)) [4],om_ 65 10 [],om_ 66 8 [],oo_ 67 (.call 166 [(.t 64),(.t 65),(.t 66)])
 [5,6,7],om_ 58 67 [8],oo_ 68 (.ext (.t 58) 0) [9],oo_ 69 (.ext (.t 58) 1) [9],oo_ 70 (.ix 1 (.t 59) (.t 60)) [0,1,0,1,2,3,4,5,6,7,8,9,10],on_ (.store 1 (.t 70) (.t 68)) [12,10,8,0,1,2,3,4,5,6,7,8,9,10],om_ 8 69
 [11,13,0,1,2,3,4,5,6,7,8,9,10,11,12,13]]))) (.reg false [oo_ 71 (.bin .add (.t 53) (.d (.int .i64 1))) [],om_ 53 71 [0]]))))))) (.seq (.reg false [om_ 72 0 [],om_ 73 5 [],oo_ 74 (.ix 1 (.t 72) (.t 73)) [0,1],oo_ 75
 (.load false 1 (.t 74)) [2],om_ 76 8 [],oo_ 77 (.bin .add (.t 75) (.t 76)) [3,4],oo_ 78 (.ix 1 (.t 72) (.t 73)) [0,1,0,1,2,3,4,5],on_ (.store 1 (.t 78) (.t 77)) [6,5,0,1,2,3,4,5]]) (.seq (.reg false [om_ 79 0 [],om_ 80
 5 [],oo_ 81 (.ix 1 (.t 79) (.t 80)) [0,1],oo_ 82 (.load false 1 (.t 81)) [2],oo_ 83 (.bin .neq (.t 82) (.d (.int .u64 0))) [3]]) (.cond (.t 83) (.reg false [om_ 84 7 [],oo_ 85 (.bin .add (.t 84) (.d (.int .i64 1)))
 [0],om_ 7 85 [1,0,1]]) .skip))))))) (.reg false [om_ 47 7 [],oo_ 48 (.bin .sub (.t 47) (.d (.int .i64 1))) [0],om_ 7 48 [1,0,1]])))))) (.seq (.reg false [om_ 86 6 [],om_ 4 86 [0,0]]) .ret))))))
theorem o_g0 : fnOf Tryz.prog o_fy = some (o_fz, [.t 4], 87, false) := by kernel_rfl

abbrev o_g1 : FuncId := 232
def o_g2 : C := (.seq (.reg false [oo_ 2 (.box 43 (.t 0)) [],oo_ 4 (.new 43 [.nilsl]) []]) (.seq (.reg false [om_ 8 1 [],oo_ 9 (.mm true [(.d (.int .i64 0)),(.t 8)]) [0],om_ 1 9 [1,0,1]]) (.seq (.seq (.reg false [om_ 10 1 [],oo_ 11
 (.bin .quo (.t 10) (.d (.int .i64 64))) [0],oo_ 12 (.fa 0 (.t 2)) [],oo_ 13 (.load false 1 (.t 12)) [2],oo_ 14 (.len (.t 13)) [3],oo_ 15 (.bin .geq (.t 11) (.t 14)) [1,4]]) (.cond (.t 15) (.seq (.reg false [oo_ 16
 (.build [.nilsl] []) [],on_ (.store 1 (.t 4) (.t 16)) [0,0]]) .ret) .skip)) (.seq (.reg false [oo_ 17 (.fa 0 (.t 2)) [],oo_ 18 (.load false 1 (.t 17)) [0],om_ 19 1 [],oo_ 20 (.bin .quo (.t 19) (.d (.int .i64 64)))
 [2],oo_ 21 (.slice 1 (.t 18) (some (.t 20)) none none) [1,3],oo_ 22 (.call 182 [(.t 21)]) [4],om_ 5 22 [5,5,0,1,2,3,4,5]]) (.seq (.seq (.reg false [om_ 23 1 [],oo_ 24 (.bin .rem (.t 23) (.d (.int .i64 64))) [0],oo_ 6
 (.mv (.d (.int .i64 0))) [],om_ 7 24 [1,2,0,1,2]]) (.block 0 (.loop (.seq (.seq (.reg false [om_ 25 6 [],om_ 26 5 [],oo_ 27 (.len (.t 26)) [1],oo_ 28 (.bin .lss (.t 25) (.t 27)) [0,2]]) (.cond (.t 28) .skip (.exit 0)))
 (.seq (.block 1 (.seq (.reg false [om_ 31 5 [],om_ 32 6 [],oo_ 33 (.ix 1 (.t 31) (.t 32)) [0,1],oo_ 34 (.load false 1 (.t 33)) [2],om_ 35 7 [],oo_ 36 (.bin .shr (.t 34) (.t 35)) [3,4],oo_ 37 (.ix 1 (.t 31) (.t 32))
 [0,1,0,1,2,3,4,5],on_ (.store 1 (.t 37) (.t 36)) [6,5,0,1,2,3,4,5]]) (.seq (.reg false [om_ 38 6 [],oo_ 39 (.bin .add (.t 38) (.d (.int .i64 1))) [0],om_ 40 5 [],oo_ 41 (.len (.t 40)) [2],oo_ 42 (.bin .lss (.t 39) (.t
 41)) [1,3]]) (.cond (.t 42) (.reg true [om_ 43 5 [],om_ 44 6 [],oo_ 45 (.ix 1 (.t 43) (.t 44)) [0,1],oo_ 46 (.load false 1 (.t 45)) [2],om_ 47 5 [],om_ 48 6 [],oo_ 49 (.bin .add (.t 48) (.d (.int .i64 1))) [5],oo_ 50
 (.ix 1 (.t 47) (.t 49)) [4,6],oo_ 51 (.load false 1 (.t 50)) [7],om_ 52 7 [],oo_ 53 (.bin .sub (.d (.int .i64 64)) (.t 52)) [9],oo_ 54 (.bin .shl (.t 51) (.t 53)) [8,10],oo_ 55 (.bin .or (.t 46) (.t 54)) [3,11],oo_ 56
 (.ix 1 (.t 43) (.t 44)) [0,1,0,1,2,3,4,5,6,7,8,9,10,11,12],on_ (.store 1 (.t 56) (.t 55)) [13,12,0,1,2,3,4,5,6,7,8,9,10,11,12]]) .skip)))) (.reg false [om_ 29 6 [],oo_ 30 (.bin .add (.t 29) (.d (.int .i64 1))) [0],om_ 6
 30 [1,0,1]])))))) (.seq (.reg false [om_ 57 5 [],oo_ 58 (.call 159 [(.t 57)]) [0],on_ (.store 1 (.t 4) (.t 58)) [1,1,0,1]]) .ret))))))
theorem o_g3 : fnOf Tryz.prog o_g1 = some (o_g2, [.cell 4 true 1], 59, false) := by kernel_rfl

abbrev o_g4 : FuncId := 239
def o_g5 : C := (.seq (.reg false [oo_ 2 (.mv (.d (.int .i64 0))) []]) (.seq (.reg false [om_ 3 0 [],oo_ 4 (.bin .mul (.t 3) (.d (.int .i64 78913))) [0],oo_ 5 (.bin .shr (.t 4) (.d (.int .u64 18))) [1],om_ 2 5 [2,0,1,2]]) .ret))
theorem o_g6 : fnOf Tryz.prog o_g4 = some (o_g5, [.t 2], 6, false) := by kernel_rfl

abbrev o_g7 : FuncId := 240
def o_g8 : C := (.seq (.reg false [oo_ 2 (.mv (.d (.int .i64 0))) []]) (.seq (.seq (.reg false [om_ 3 0 []]) (.cond (.t 3) (.seq (.reg false [oo_ 2 (.mv (.d (.int .i64 1))) []]) .ret) .skip)) (.seq (.reg false [oo_ 2 (.mv (.d (.int
 .i64 0))) []]) .ret)))
theorem o_g9 : fnOf Tryz.prog o_g7 = some (o_g8, [.t 2], 4, false) := by kernel_rfl

abbrev o_ga : FuncId := 245
def o_gb : C := (.seq (.reg false [oo_ 6 (.mv (.d (.int .i64 0))) []]) (.seq (.reg false [oo_ 7 (.mv (.d (.int .u64 0))) [],oo_ 8 (.mv (.d (.int .u64 0))) [0]]) (.seq (.seq (.reg false [om_ 15 1 [],oo_ 16 (.len (.t 15)) [0],oo_ 17 (.mv
 (.d (.int .i64 0))) []]) (.block 0 (.loop (.seq (.reg false [oo_ 18 (.bin .lss (.t 17) (.t 16)) []]) (.seq (.cond (.t 18) .skip (.exit 0)) (.seq (.block 1 (.seq (.reg false [om_ 19 17 [],oo_ 20 (.ix 1 (.t 15) (.t 17))
 [],oo_ 21 (.load false 1 (.t 20)) [1],om_ 9 19 [0,0,1,2],om_ 10 21 [2,3,0,1,2,3]]) (.seq (.reg false [om_ 23 10 [],om_ 24 2 [],oo_ 25 (.call 165 [(.t 23),(.t 24)]) [0,1],om_ 22 25 [2],oo_ 26 (.ext (.t 22) 0) [3],oo_ 27
 (.ext (.t 22) 1) [3],om_ 11 26 [4,2,0,1,2,3,4],om_ 12 27 [5,6,0,1,2,3,4,5,6]]) (.seq (.reg false [oo_ 13 (.mv (.d (.int .u64 0))) []]) (.seq (.reg false [om_ 29 12 [],om_ 30 7 [],oo_ 31 (.call 166 [(.t 29),(.t 30),(.d
 (.int .u64 0))]) [0,1],om_ 28 31 [2],oo_ 32 (.ext (.t 28) 0) [3],oo_ 33 (.ext (.t 28) 1) [3],om_ 12 32 [4,2,0,1,2,3,4],om_ 13 33 [5,6,0,1,2,3,4,5,6]]) (.seq (.reg false [om_ 34 11 [],om_ 35 13 [],oo_ 36 (.bin .add (.t
 34) (.t 35)) [0,1],om_ 7 36 [2,0,1,2]]) (.reg false [om_ 38 0 [],om_ 39 9 [],om_ 40 0 [],om_ 41 9 [],oo_ 42 (.ix 1 (.t 40) (.t 41)) [2,3],oo_ 43 (.load false 1 (.t 42)) [4],om_ 44 12 [],om_ 45 8 [],oo_ 46 (.call 208
 [(.t 43),(.t 44),(.t 45)]) [5,6,7],om_ 37 46 [8],oo_ 47 (.ext (.t 37) 0) [9],oo_ 48 (.ext (.t 37) 1) [9],oo_ 49 (.ix 1 (.t 38) (.t 39)) [0,1,0,1,2,3,4,5,6,7,8,9,10],on_ (.store 1 (.t 49) (.t 47))
 [12,10,8,0,1,2,3,4,5,6,7,8,9,10],om_ 8 48 [11,13,0,1,2,3,4,5,6,7,8,9,10,11,12,13]]))))))) (.reg false [oo_ 50 (.bin .add (.t 17) (.d (.int .i64 1))) [],om_ 17 50 [0]]))))))) (.seq (.reg false [om_ 51 1 [],oo_ 52 (.len
 (.t 51)) [0],om_ 14 52 [1,0,1]]) (.seq (.reg false [om_ 54 0 [],om_ 55 14 [],om_ 56 0 [],om_ 57 14 [],oo_ 58 (.ix 1 (.t 56) (.t 57)) [2,3],oo_ 59 (.load false 1 (.t 58)) [4],om_ 60 7 [],om_ 61 8 [],oo_ 62 (.call 208
 [(.t 59),(.t 60),(.t 61)]) [5,6,7],om_ 53 62 [8],oo_ 63 (.ext (.t 53) 0) [9],oo_ 64 (.ext (.t 53) 1) [9],oo_ 65 (.ix 1 (.t 54) (.t 55)) [0,1,0,1,2,3,4,5,6,7,8,9,10],on_ (.store 1 (.t 65) (.t 63))
 [12,10,8,0,1,2,3,4,5,6,7,8,9,10],om_ 8 64 [11,13,0,1,2,3,4,5,6,7,8,9,10,11,12,13]]) (.seq (.reg false [om_ 66 8 [],oo_ 67 (.conv .i64 (.t 66)) [0],om_ 6 67 [1,0,1]]) .ret))))))
theorem o_gc : fnOf Tryz.prog o_ga = some (o_gb, [.t 6], 68, false) := by kernel_rfl

abbrev o_gd : FuncId := 265
def o_ge : C := (.seq (.reg false [oo_ 1 (.box 43 (.t 0)) [],oo_ 2 (.mv (.d (.int .i64 0))) []]) (.seq (.reg false [oo_ 4 (.fa 0 (.t 1)) [],oo_ 5 (.load false 1 (.t 4)) [0],oo_ 6 (.len (.t 5)) [1],om_ 3 6 [2,0,1,2]]) (.seq (.seq (.reg
 false [om_ 7 3 [],oo_ 8 (.bin .eql (.t 7) (.d (.int .i64 0))) [0]]) (.cond (.t 8) (.seq (.reg false [oo_ 2 (.mv (.d (.int .i64 0))) []]) .ret) .skip)) (.seq (.reg false [om_ 9 3 [],oo_ 10 (.bin .sub (.t 9) (.d (.int
 .i64 1))) [0],oo_ 11 (.bin .mul (.d (.int .i64 64)) (.t 10)) [1],oo_ 12 (.fa 0 (.t 1)) [],oo_ 13 (.load false 1 (.t 12)) [3],om_ 14 3 [],oo_ 15 (.bin .sub (.t 14) (.d (.int .i64 1))) [5],oo_ 16 (.ix 1 (.t 13) (.t 15))
 [4,6],oo_ 17 (.load false 1 (.t 16)) [7],oo_ 18 (.call 173 [(.t 17)]) [8],oo_ 19 (.bin .add (.t 11) (.t 18)) [2,9],om_ 2 19 [10,9,0,1,2,3,4,5,6,7,8,9,10]]) .ret))))
theorem o_gf : fnOf Tryz.prog o_gd = some (o_ge, [.t 2], 20, false) := by kernel_rfl

abbrev o_gg : FuncId := 268
def o_gh : C := (.seq (.reg false [oo_ 4 (.new 47 [.nilsl,(.bool false),.nilsl]) [],oo_ 5 (.mv (.d (.int .i64 0))) []]) (.seq (.reg false [om_ 6 0 [],om_ 7 1 [],oo_ 8 (.call 274 [(.t 6),(.t 7)]) [0,1],oo_ 9 (.ext (.t 8) 0) [2],oo_ 10
 (.ext (.t 8) 1) [2],on_ (.store 3 (.t 4) (.t 9)) [3,2,0,1,2,3,4],om_ 5 10 [4,5,0,1,2,3,4,5]]) .ret))
theorem o_gi : fnOf Tryz.prog o_gg = some (o_gh, [.cell 4 true 3, .t 5], 11, false) := by kernel_rfl

abbrev o_gj : FuncId := 269
def o_gk : C := (.seq (.reg false [oo_ 2 (.mv (.d (.bool false))) []]) (.seq (.reg false [om_ 3 0 [],oo_ 4 (.call 275 [(.t 3)]) [0],om_ 2 4 [1,1,0,1]]) .ret))
theorem o_gl : fnOf Tryz.prog o_gj = some (o_gk, [.t 2], 5, false) := by kernel_rfl

abbrev o_gm : FuncId := 272
def o_gn : C := (.seq (.reg false [oo_ 4 (.new 47 [.nilsl,(.bool false),.nilsl]) [],oo_ 5 (.mv (.d (.int .i64 0))) []]) (.seq (.reg false [om_ 6 0 [],om_ 7 1 [],oo_ 8 (.call 277 [(.t 6),(.t 7)]) [0,1],oo_ 9 (.ext (.t 8) 0) [2],oo_ 10
 (.ext (.t 8) 1) [2],on_ (.store 3 (.t 4) (.t 9)) [3,2,0,1,2,3,4],om_ 5 10 [4,5,0,1,2,3,4,5]]) .ret))
theorem o_go : fnOf Tryz.prog o_gm = some (o_gn, [.cell 4 true 3, .t 5], 11, false) := by kernel_rfl

abbrev o_gp : FuncId := 274
def o_gq : C := (.seq (.reg false [oo_ 4 (.new 47 [.nilsl,(.bool false),.nilsl]) [],oo_ 5 (.mv (.d (.int .i64 0))) []]) (.seq (.seq (.reg false [om_ 9 0 [],om_ 10 1 [],oo_ 11 (.bsl 3 1 1 [(.int .i64 0)] [(0,1,(.t 10))]) [1],oo_ 12
 (.call 278 [(.t 9),(.t 11)]) [0,2],om_ 6 12 [3,3,0,1,2,3]]) (.seq (.reg false [om_ 13 6 [],oo_ 14 (.bin .neq (.t 13) (.d (.int .i64 0))) [0]]) (.cond (.t 14) (.seq (.reg false [oo_ 15 (.build [.nilsl,(.bool
 false),.nilsl] []) [],om_ 16 6 [],on_ (.store 3 (.t 4) (.t 15)) [0,0],om_ 5 16 [1,2,0,1,2]]) .ret) .skip))) (.seq (.reg false [om_ 18 0 [],om_ 19 0 [],oo_ 20 (.bin .add (.t 19) (.d (.int .i64 1))) [1],oo_ 21 (.call 20
 [(.t 18),(.t 20)]) [0,2],om_ 17 21 [3],oo_ 22 (.ext (.t 17) 0) [4],oo_ 23 (.ext (.t 17) 1) [4],oo_ 7 (.new 47 [.nilsl,(.bool false),.nilsl]) [],on_ (.store 3 (.t 7) (.t 22)) [7,5,3,0,1,2,3,4,5,7],om_ 8 23
 [6,8,0,1,2,3,4,5,6,7,8]]) (.seq (.reg false [oo_ 24 (.load true 3 (.t 7)) [],om_ 25 1 [],oo_ 26 (.call 280 [(.t 24),(.t 25)]) [0,1],oo_ 27 (.ext (.t 26) 0) [2],oo_ 28 (.ext (.t 26) 1) [2],on_ (.store 3 (.t 4) (.t 27))
 [3,2,0,1,2,3,4],om_ 5 28 [4,5,0,1,2,3,4,5]]) .ret))))
theorem o_gr : fnOf Tryz.prog o_gp = some (o_gq, [.cell 4 true 3, .t 5], 29, false) := by kernel_rfl

abbrev o_gs : FuncId := 275
def o_gt : C := (.seq (.reg false [oo_ 2 (.mv (.d (.bool false))) []]) (.seq (.reg false [om_ 3 0 [],oo_ 4 (.bin .geq (.t 3) (.d (.int .i64 1))) [0],om_ 5 4 [1],og_ 6 (.mv (.t 0)) 5 true [2],og_ 7 (.bin .leq (.t 6) (.d (.int .i64
 4096))) 5 true [3,2],oo_ 8 (.pick (.t 5) (.t 7) (.d (.bool false))) [2,4],om_ 2 8 [5,2,0,1,2,3,4,5]]) .ret))
theorem o_gu : fnOf Tryz.prog o_gs = some (o_gt, [.t 2], 9, false) := by kernel_rfl

abbrev o_gv : FuncId := 277
def o_gw : C := (.seq (.reg false [oo_ 4 (.new 47 [.nilsl,(.bool false),.nilsl]) [],oo_ 5 (.mv (.d (.int .i64 0))) []]) (.seq (.seq (.reg false [om_ 11 0 [],om_ 12 1 [],oo_ 13 (.bsl 3 1 1 [(.int .i64 0)] [(0,1,(.t 12))]) [1],oo_ 14
 (.call 278 [(.t 11),(.t 13)]) [0,2],om_ 6 14 [3,3,0,1,2,3]]) (.seq (.reg false [om_ 15 6 [],oo_ 16 (.bin .neq (.t 15) (.d (.int .i64 0))) [0]]) (.cond (.t 16) (.seq (.reg false [oo_ 17 (.build [.nilsl,(.bool
 false),.nilsl] []) [],om_ 18 6 [],on_ (.store 3 (.t 4) (.t 17)) [0,0],om_ 5 18 [1,2,0,1,2]]) .ret) .skip))) (.seq (.reg false [om_ 20 0 [],oo_ 21 (.bin .add (.t 20) (.d (.int .i64 1))) [0],om_ 22 0 [],oo_ 23 (.call 20
 [(.t 21),(.t 22)]) [1,2],om_ 19 23 [3],oo_ 24 (.ext (.t 19) 0) [4],oo_ 25 (.ext (.t 19) 1) [4],oo_ 7 (.new 47 [.nilsl,(.bool false),.nilsl]) [],on_ (.store 3 (.t 7) (.t 24)) [7,5,3,0,1,2,3,4,5,7],om_ 8 25
 [6,8,0,1,2,3,4,5,6,7,8]]) (.seq (.reg false [oo_ 27 (.load true 3 (.t 7)) [],om_ 28 1 [],oo_ 29 (.call 280 [(.t 27),(.t 28)]) [0,1],om_ 26 29 [2],oo_ 30 (.ext (.t 26) 0) [3],oo_ 31 (.ext (.t 26) 1) [3],oo_ 9 (.new 47
 [.nilsl,(.bool false),.nilsl]) [],on_ (.store 3 (.t 9) (.t 30)) [6,4,2,0,1,2,3,4,6],om_ 10 31 [5,7,0,1,2,3,4,5,6,7]]) (.seq (.seq (.reg false [om_ 32 10 [],oo_ 33 (.bin .neq (.t 32) (.d (.int .i64 0))) [0]]) (.cond (.t
 33) (.seq (.reg false [oo_ 34 (.build [.nilsl,(.bool false),.nilsl] []) [],om_ 35 10 [],on_ (.store 3 (.t 4) (.t 34)) [0,0],om_ 5 35 [1,2,0,1,2]]) .ret) .skip)) (.seq (.reg true [om_ 36 0 [],oo_ 37 (.call 35 [(.t 36)])
 [0],oo_ 38 (.load true 3 (.t 9)) [],oo_ 39 (.call 35 [(.d (.int .i64 1))]) [1],oo_ 40 (.call 40 [(.t 38),(.t 39)]) [2,3,3],oo_ 41 (.call 39 [(.t 37),(.t 40)]) [1,4,4],on_ (.store 3 (.t 4) (.t 41)) [5,5,0,1,2,3,4,5],oo_
 5 (.mv (.d (.int .i64 0))) [6,0,1,2,3,4,5,6]]) .ret))))))
theorem o_gx : fnOf Tryz.prog o_gv = some (o_gw, [.cell 4 true 3, .t 5], 42, false) := by kernel_rfl

abbrev o_gy : FuncId := 278
def o_gz : C := (.seq (.reg false [oo_ 4 (.mv (.d (.int .i64 0))) []]) (.seq (.seq (.reg false [om_ 7 0 [],oo_ 8 (.call 275 [(.t 7)]) [0],oo_ 9 (.un .not (.t 8)) [1]]) (.cond (.t 9) (.seq (.reg false [oo_ 4 (.mv (.d (.int .i64 10)))
 []]) .ret) .skip)) (.seq (.seq (.reg false [om_ 10 1 [],oo_ 11 (.len (.t 10)) [0],oo_ 12 (.mv (.d (.int .i64 0))) []]) (.block 0 (.loop (.seq (.reg false [oo_ 13 (.bin .lss (.t 12) (.t 11)) []]) (.seq (.cond (.t 13)
 .skip (.exit 0)) (.seq (.block 1 (.seq (.reg false [oo_ 14 (.ix 1 (.t 10) (.t 12)) [],oo_ 15 (.load false 1 (.t 14)) [0],om_ 6 15 [1,0,1]]) (.seq (.reg false [om_ 16 6 [],oo_ 17 (.bin .lss (.t 16) (.d (.int .i64 0)))
 [0],om_ 18 17 [1],og_ 19 (.mv (.t 6)) 18 false [2],og_ 20 (.bin .gtr (.t 19) (.d (.int .i64 1023))) 18 false [3,2],oo_ 21 (.pick (.t 18) (.d (.bool true)) (.t 20)) [2,4]]) (.cond (.t 21) (.seq (.reg false [oo_ 4 (.mv
 (.d (.int .i64 2))) []]) .ret) .skip)))) (.reg false [oo_ 22 (.bin .add (.t 12) (.d (.int .i64 1))) [],om_ 12 22 [0]]))))))) (.seq (.reg false [oo_ 4 (.mv (.d (.int .i64 0))) []]) .ret))))
theorem o_h0 : fnOf Tryz.prog o_gy = some (o_gz, [.t 4], 23, false) := by kernel_rfl

abbrev o_h1 : FuncId := 280
def o_h2 : C := (.seq (.reg false [oo_ 2 (.box 47 (.t 0)) [],oo_ 4 (.new 47 [.nilsl,(.bool false),.nilsl]) [],oo_ 5 (.mv (.d (.int .i64 0))) []]) (.seq (.reg false [oo_ 10 (.fa 0 (.t 2)) [],oo_ 11 (.load true 2 (.t 10)) [0],oo_ 12
 (.call 128 [(.t 11)]) [1],om_ 13 1 [],oo_ 14 (.call 282 [(.t 12),(.t 13)]) [2,3,2],om_ 9 14 [4],oo_ 15 (.ext (.t 9) 0) [5],oo_ 16 (.ext (.t 9) 1) [5],oo_ 6 (.new 43 [.nilsl]) [],on_ (.store 1 (.t 6) (.t 15))
 [8,6,4,0,1,2,3,4,5,6,8],om_ 7 16 [7,9,0,1,2,3,4,5,6,7,8,9]]) (.seq (.seq (.reg false [om_ 17 7 [],oo_ 18 (.bin .neq (.t 17) (.d (.int .i64 0))) [0]]) (.cond (.t 18) (.seq (.reg false [oo_ 19 (.build [.nilsl,(.bool
 false),.nilsl] []) [],om_ 20 7 [],on_ (.store 3 (.t 4) (.t 19)) [0,0],om_ 5 20 [1,2,0,1,2]]) .ret) .skip)) (.seq (.reg false [oo_ 22 (.load true 3 (.t 2)) [],oo_ 23 (.call 94 [(.t 22)]) [0],om_ 24 1 [],oo_ 25 (.call 282
 [(.t 23),(.t 24)]) [1,2,1],om_ 21 25 [3],oo_ 26 (.ext (.t 21) 0) [4],oo_ 27 (.ext (.t 21) 1) [4],oo_ 8 (.new 43 [.nilsl]) [],on_ (.store 1 (.t 8) (.t 26)) [7,5,3,0,1,2,3,4,5,7],om_ 7 27 [6,8,0,1,2,3,4,5,6,7,8]]) (.seq
 (.seq (.reg false [om_ 28 7 [],oo_ 29 (.bin .neq (.t 28) (.d (.int .i64 0))) [0]]) (.cond (.t 29) (.seq (.reg false [oo_ 30 (.build [.nilsl,(.bool false),.nilsl] []) [],om_ 31 7 [],on_ (.store 3 (.t 4) (.t 30))
 [0,0],om_ 5 31 [1,2,0,1,2]]) .ret) .skip)) (.seq (.reg true [oo_ 32 (.fa 0 (.t 2)) [],oo_ 33 (.load true 2 (.t 32)) [0],oo_ 34 (.call 131 [(.t 33)]) [1],om_ 35 34 [2,2],og_ 36 (.mv (.t 1)) 35 true [3],og_ 37 (.bin .and
 (.t 36) (.d (.int .i64 1))) 35 true [4,3],og_ 38 (.bin .eql (.t 37) (.d (.int .i64 1))) 35 true [5,3],oo_ 39 (.pick (.t 35) (.t 38) (.d (.bool false))) [3,6],oo_ 40 (.load true 1 (.t 6)) [],oo_ 41 (.call 130 [(.t
 39),(.t 40)]) [7,8,3],oo_ 42 (.load true 1 (.t 8)) [],oo_ 43 (.call 96 [(.t 41),(.t 42)]) [9,10,9],on_ (.store 3 (.t 4) (.t 43)) [11,11,0,1,2,3,4,5,6,7,8,9,10,11],oo_ 5 (.mv (.d (.int .i64 0)))
 [12,0,1,2,3,4,5,6,7,8,9,10,11,12]]) .ret))))))
theorem o_h3 : fnOf Tryz.prog o_h1 = some (o_h2, [.cell 4 true 3, .t 5], 44, false) := by kernel_rfl

abbrev o_h4 : FuncId := 282
def o_h5 : C := (.seq (.reg false [oo_ 2 (.box 43 (.t 0)) [],oo_ 4 (.new 43 [.nilsl]) [],oo_ 5 (.mv (.d (.int .i64 0))) []]) (.seq (.block 0 (.seq (.reg false [om_ 8 1 [],oo_ 9 (.bin .lss (.t 8) (.d (.int .i64 0))) [0],om_ 7 9 [1]])
 (.cond (.t 7) (.seq (.reg false [oo_ 10 (.build [.nilsl] []) [],on_ (.store 1 (.t 4) (.t 10)) [0,0],oo_ 5 (.mv (.d (.int .i64 2))) [1,0,1]]) .ret) (.seq (.reg false [oo_ 12 (.load true 1 (.t 2)) [],oo_ 13 (.call 265
 [(.t 12)]) [0],oo_ 14 (.bin .gtr (.t 13) (.d (.int .i64 1))) [1],om_ 15 14 [2,1],og_ 16 (.mv (.t 1)) 15 true [3],og_ 17 (.load true 1 (.t 2)) 15 true [3],og_ 18 (.call 265 [(.t 17)]) 15 true [5,3,3],og_ 19 (.bin .quo
 (.d (.int .i64 8192)) (.t 18)) 15 true [6,3],og_ 20 (.bin .gtr (.t 16) (.t 19)) 15 true [4,7,3],oo_ 21 (.pick (.t 15) (.t 20) (.d (.bool false))) [3,8],om_ 11 21 [9,6]]) (.cond (.t 11) (.seq (.reg false [oo_ 22 (.build
 [.nilsl] []) [],on_ (.store 1 (.t 4) (.t 22)) [0,0],oo_ 5 (.mv (.d (.int .i64 3))) [1,0,1]]) .ret) .skip))))) (.seq (.reg false [oo_ 23 (.bsl 199 1 1 [(.int .u64 0)] [(0,1,(.d (.int .u64 1)))]) [],oo_ 24 (.call 132 [(.t
 23)]) [0],oo_ 6 (.new 43 [.nilsl]) [],on_ (.store 1 (.t 6) (.t 24)) [2,1,1,0,1,2]]) (.seq (.seq (.reg false [oo_ 25 (.load true 1 (.t 2)) [],oo_ 26 (.call 265 [(.t 25)]) [0],oo_ 27 (.bin .leq (.t 26) (.d (.int .i64 1)))
 [1]]) (.cond (.t 27) (.reg false [om_ 28 1 [],oo_ 29 (.mm false [(.t 28),(.d (.int .i64 1))]) [0],om_ 1 29 [1,0,1]]) .skip)) (.seq (.block 1 (.loop (.seq (.seq (.reg false [om_ 30 1 [],oo_ 31 (.bin .gtr (.t 30) (.d
 (.int .i64 0))) [0]]) (.cond (.t 31) .skip (.exit 1))) (.seq (.block 2 (.seq (.seq (.reg false [om_ 34 1 [],oo_ 35 (.bin .and (.t 34) (.d (.int .i64 1))) [0],oo_ 36 (.bin .eql (.t 35) (.d (.int .i64 1))) [1]]) (.cond
 (.t 36) (.reg false [oo_ 37 (.load true 1 (.t 6)) [],oo_ 38 (.load true 1 (.t 2)) [],oo_ 39 (.call 97 [(.t 37),(.t 38)]) [0,1],on_ (.store 1 (.t 6) (.t 39)) [2,2,0,1,2]]) .skip)) (.reg false [oo_ 40 (.load true 1 (.t
 2)) [],oo_ 41 (.load true 1 (.t 2)) [],oo_ 42 (.call 97 [(.t 40),(.t 41)]) [0,1],on_ (.store 1 (.t 2) (.t 42)) [2,2,0,1,2]]))) (.reg false [om_ 32 1 [],oo_ 33 (.bin .shr (.t 32) (.d (.int .u64 1))) [0],om_ 1 33
 [1,0,1]]))))) (.seq (.reg false [oo_ 43 (.load true 1 (.t 6)) [],on_ (.store 1 (.t 4) (.t 43)) [0,0],oo_ 5 (.mv (.d (.int .i64 0))) [1,0,1]]) .ret))))))
theorem o_h6 : fnOf Tryz.prog o_h4 = some (o_h5, [.cell 4 true 1, .t 5], 44, false) := by kernel_rfl

abbrev o_h7 : FuncId := 286
def o_h8 : C := (.seq (.reg false [oo_ 4 (.new 47 [.nilsl,(.bool false),.nilsl]) [],oo_ 5 (.mv (.d (.int .i64 0))) []]) (.seq (.reg false [om_ 6 0 [],om_ 7 1 [],oo_ 8 (.call 292 [(.t 6),(.t 7)]) [0,1],oo_ 9 (.ext (.t 8) 0) [2],oo_ 10
 (.ext (.t 8) 1) [2],on_ (.store 3 (.t 4) (.t 9)) [3,2,0,1,2,3,4],om_ 5 10 [4,5,0,1,2,3,4,5]]) .ret))
theorem o_h9 : fnOf Tryz.prog o_h7 = some (o_h8, [.cell 4 true 3, .t 5], 11, false) := by kernel_rfl

abbrev o_ha : FuncId := 287
def o_hb : C := (.seq (.reg false [oo_ 2 (.mv (.d (.bool false))) []]) (.seq (.reg false [om_ 3 0 [],oo_ 4 (.call 293 [(.t 3)]) [0],om_ 2 4 [1,1,0,1]]) .ret))
theorem o_hc : fnOf Tryz.prog o_ha = some (o_hb, [.t 2], 5, false) := by kernel_rfl

abbrev o_hd : FuncId := 290
def o_he : C := (.seq (.reg false [oo_ 4 (.new 47 [.nilsl,(.bool false),.nilsl]) [],oo_ 5 (.mv (.d (.int .i64 0))) []]) (.seq (.reg false [om_ 9 0 [],om_ 10 1 [],oo_ 11 (.call 295 [(.t 9),(.t 10)]) [0,1],om_ 8 11 [2],oo_ 12 (.ext (.t
 8) 0) [3],oo_ 13 (.ext (.t 8) 1) [3],oo_ 6 (.new 43 [.nilsl]) [],on_ (.store 1 (.t 6) (.t 12)) [6,4,2,0,1,2,3,4,6],om_ 7 13 [5,7,0,1,2,3,4,5,6,7]]) (.seq (.reg false [oo_ 14 (.load true 1 (.t 6)) [],oo_ 15 (.call 197
 [(.t 14)]) [0],om_ 16 7 [],on_ (.store 3 (.t 4) (.t 15)) [1,1,0,1],om_ 5 16 [2,3,0,1,2,3]]) .ret)))
theorem o_hf : fnOf Tryz.prog o_hd = some (o_he, [.cell 4 true 3, .t 5], 17, false) := by kernel_rfl

abbrev o_hg : FuncId := 292
def o_hh : C := (.seq (.reg false [oo_ 4 (.new 47 [.nilsl,(.bool false),.nilsl]) [],oo_ 5 (.mv (.d (.int .i64 0))) []]) (.seq (.seq (.reg false [om_ 9 0 [],om_ 10 1 [],oo_ 11 (.bsl 3 1 1 [(.int .i64 0)] [(0,1,(.t 10))]) [1],oo_ 12
 (.call 296 [(.t 9),(.t 11)]) [0,2],om_ 6 12 [3,3,0,1,2,3]]) (.seq (.reg false [om_ 13 6 [],oo_ 14 (.bin .neq (.t 13) (.d (.int .i64 0))) [0]]) (.cond (.t 14) (.seq (.reg false [oo_ 15 (.build [.nilsl,(.bool
 false),.nilsl] []) [],om_ 16 6 [],on_ (.store 3 (.t 4) (.t 15)) [0,0],om_ 5 16 [1,2,0,1,2]]) .ret) .skip))) (.seq (.reg false [om_ 18 0 [],om_ 19 1 [],oo_ 20 (.call 297 [(.t 18),(.t 19)]) [0,1],om_ 17 20 [2],oo_ 21
 (.ext (.t 17) 0) [3],oo_ 22 (.ext (.t 17) 1) [3],om_ 7 21 [4,2,0,1,2,3,4],om_ 8 22 [5,6,0,1,2,3,4,5,6]]) (.seq (.reg false [om_ 23 7 [],oo_ 24 (.call 184 [(.t 23)]) [0],oo_ 25 (.ext (.t 24) 0) [1],oo_ 26 (.ext (.t 24)
 1) [1],on_ (.store 3 (.t 4) (.t 25)) [2,1,0,1,2,3],om_ 5 26 [3,4,0,1,2,3,4]]) .ret))))
theorem o_hi : fnOf Tryz.prog o_hg = some (o_hh, [.cell 4 true 3, .t 5], 27, false) := by kernel_rfl

abbrev o_hj : FuncId := 293
def o_hk : C := (.seq (.reg false [oo_ 2 (.mv (.d (.bool false))) []]) (.seq (.reg false [om_ 3 0 [],oo_ 4 (.bin .geq (.t 3) (.d (.int .i64 0))) [0],om_ 5 4 [1],og_ 6 (.mv (.t 0)) 5 true [2],og_ 7 (.bin .leq (.t 6) (.d (.int .i64 8)))
 5 true [3,2],oo_ 8 (.pick (.t 5) (.t 7) (.d (.bool false))) [2,4],om_ 2 8 [5,2,0,1,2,3,4,5]]) .ret))
theorem o_hl : fnOf Tryz.prog o_hj = some (o_hk, [.t 2], 9, false) := by kernel_rfl

abbrev o_hm : FuncId := 295
def o_hn : C := (.seq (.reg false [oo_ 4 (.new 43 [.nilsl]) [],oo_ 5 (.mv (.d (.int .i64 0))) []]) (.seq (.seq (.reg false [om_ 11 0 [],om_ 12 1 [],oo_ 13 (.bsl 3 1 1 [(.int .i64 0)] [(0,1,(.t 12))]) [1],oo_ 14 (.call 296 [(.t 11),(.t
 13)]) [0,2],om_ 6 14 [3,3,0,1,2,3]]) (.seq (.reg false [om_ 15 6 [],oo_ 16 (.bin .neq (.t 15) (.d (.int .i64 0))) [0]]) (.cond (.t 16) (.seq (.reg false [oo_ 17 (.build [.nilsl] []) [],om_ 18 6 [],on_ (.store 1 (.t 4)
 (.t 17)) [0,0],om_ 5 18 [1,2,0,1,2]]) .ret) .skip))) (.seq (.reg false [om_ 20 0 [],om_ 21 1 [],oo_ 22 (.call 297 [(.t 20),(.t 21)]) [0,1],om_ 19 22 [2],oo_ 23 (.ext (.t 19) 0) [3],oo_ 24 (.ext (.t 19) 1) [3],om_ 7 23
 [4,2,0,1,2,3,4],om_ 8 24 [5,6,0,1,2,3,4,5,6]]) (.seq (.reg false [om_ 26 0 [],oo_ 27 (.bin .shl (.d (.int .i64 1)) (.t 26)) [0],om_ 28 8 [],oo_ 29 (.bin .add (.t 27) (.t 28)) [1,2],oo_ 30 (.conv .u64 (.t 29)) [3],oo_ 31
 (.bsl 199 1 1 [(.int .u64 0)] [(0,1,(.t 30))]) [4],oo_ 32 (.call 132 [(.t 31)]) [5],om_ 33 7 [],oo_ 34 (.call 211 [(.t 32),(.t 33)]) [6,7,6],om_ 25 34 [8],oo_ 35 (.ext (.t 25) 0) [9],oo_ 36 (.ext (.t 25) 1) [9],oo_ 9
 (.new 43 [.nilsl]) [],on_ (.store 1 (.t 9) (.t 35)) [12,10,8,0,1,2,3,4,5,6,7,8,9,10,12],om_ 10 36 [11,13,0,1,2,3,4,5,6,7,8,9,10,11,12,13]]) (.seq (.reg true [oo_ 37 (.load true 1 (.t 9)) [],om_ 38 0 [],oo_ 39 (.bin .shl
 (.d (.int .u64 1)) (.t 38)) [1],oo_ 40 (.bsl 199 1 1 [(.int .u64 0)] [(0,1,(.t 39))]) [2],oo_ 41 (.call 132 [(.t 40)]) [3],oo_ 42 (.call 164 [(.t 37),(.t 41)]) [0,4,4],oo_ 43 (.ext (.t 42) 0) [5],oo_ 44 (.ext (.t 42) 1)
 [5],on_ (.store 1 (.t 4) (.t 43)) [6,5,0,1,2,3,4,5,6,7],om_ 5 44 [7,8,0,1,2,3,4,5,6,7,8]]) .ret)))))
theorem o_ho : fnOf Tryz.prog o_hm = some (o_hn, [.cell 4 true 1, .t 5], 45, false) := by kernel_rfl

abbrev o_hp : FuncId := 296
def o_hq : C := (.seq (.reg false [oo_ 4 (.mv (.d (.int .i64 0))) []]) (.seq (.seq (.reg false [om_ 7 0 [],oo_ 8 (.call 293 [(.t 7)]) [0],oo_ 9 (.un .not (.t 8)) [1]]) (.cond (.t 9) (.seq (.reg false [oo_ 4 (.mv (.d (.int .i64 10)))
 []]) .ret) .skip)) (.seq (.seq (.reg false [om_ 10 1 [],oo_ 11 (.len (.t 10)) [0],oo_ 12 (.mv (.d (.int .i64 0))) []]) (.block 0 (.loop (.seq (.reg false [oo_ 13 (.bin .lss (.t 12) (.t 11)) []]) (.seq (.cond (.t 13)
 .skip (.exit 0)) (.seq (.block 1 (.seq (.reg false [oo_ 14 (.ix 1 (.t 10) (.t 12)) [],oo_ 15 (.load false 1 (.t 14)) [0],om_ 6 15 [1,0,1]]) (.seq (.reg false [om_ 16 6 [],oo_ 17 (.bin .lss (.t 16) (.d (.int .i64 0)))
 [0],om_ 18 17 [1],og_ 19 (.mv (.t 6)) 18 false [2],og_ 20 (.bin .gtr (.t 19) (.d (.int .i64 1023))) 18 false [3,2],oo_ 21 (.pick (.t 18) (.d (.bool true)) (.t 20)) [2,4]]) (.cond (.t 21) (.seq (.reg false [oo_ 4 (.mv
 (.d (.int .i64 2))) []]) .ret) .skip)))) (.reg false [oo_ 22 (.bin .add (.t 12) (.d (.int .i64 1))) [],om_ 12 22 [0]]))))))) (.seq (.reg false [oo_ 4 (.mv (.d (.int .i64 0))) []]) .ret))))
theorem o_hr : fnOf Tryz.prog o_hp = some (o_hq, [.t 4], 23, false) := by kernel_rfl

abbrev o_hs : FuncId := 297
def o_ht : C := (.seq (.reg false [oo_ 4 (.mv (.d (.int .i64 0))) [],oo_ 5 (.mv (.d (.int .i64 0))) [0]]) (.seq (.reg true [om_ 6 1 [],om_ 7 0 [],oo_ 8 (.bin .shr (.t 6) (.t 7)) [0,1],om_ 9 1 [],om_ 10 0 [],oo_ 11 (.bin .shl (.d (.int
 .i64 1)) (.t 10)) [4],oo_ 12 (.bin .sub (.t 11) (.d (.int .i64 1))) [5],oo_ 13 (.bin .and (.t 9) (.t 12)) [3,6],om_ 4 8 [2,0,1,2],om_ 5 13 [7,8,0,1,2,3,4,5,6,7,8]]) .ret))
theorem o_hu : fnOf Tryz.prog o_hs = some (o_ht, [.t 4, .t 5], 14, false) := by kernel_rfl

abbrev o_hv : FuncId := 299
def o_hw : C := (.seq (.reg false [oo_ 4 (.new 47 [.nilsl,(.bool false),.nilsl]) [],oo_ 5 (.mv (.d (.int .i64 0))) []]) (.seq (.reg false [om_ 6 0 [],om_ 7 1 [],oo_ 8 (.call 305 [(.t 6),(.t 7)]) [0,1],oo_ 9 (.ext (.t 8) 0) [2],oo_ 10
 (.ext (.t 8) 1) [2],on_ (.store 3 (.t 4) (.t 9)) [3,2,0,1,2,3,4],om_ 5 10 [4,5,0,1,2,3,4,5]]) .ret))
theorem o_hx : fnOf Tryz.prog o_hv = some (o_hw, [.cell 4 true 3, .t 5], 11, false) := by kernel_rfl

abbrev o_hy : FuncId := 300
def o_hz : C := (.seq (.reg false [oo_ 2 (.mv (.d (.bool false))) []]) (.seq (.reg false [om_ 3 0 [],oo_ 4 (.call 306 [(.t 3)]) [0],om_ 2 4 [1,1,0,1]]) .ret))
theorem o_i0 : fnOf Tryz.prog o_hy = some (o_hz, [.t 2], 5, false) := by kernel_rfl

abbrev o_i1 : FuncId := 303
def o_i2 : C := (.seq (.reg false [oo_ 4 (.new 47 [.nilsl,(.bool false),.nilsl]) [],oo_ 5 (.mv (.d (.int .i64 0))) []]) (.seq (.reg false [om_ 9 0 [],om_ 10 1 [],oo_ 11 (.call 308 [(.t 9),(.t 10)]) [0,1],om_ 8 11 [2],oo_ 12 (.ext (.t
 8) 0) [3],oo_ 13 (.ext (.t 8) 1) [3],oo_ 6 (.new 326 [(.int .i64 0),(.int .i64 0),.nilsl,.nilsl]) [],on_ (.store 4 (.t 6) (.t 12)) [6,4,2,0,1,2,3,4,6],om_ 7 13 [5,7,0,1,2,3,4,5,6,7]]) (.seq (.reg false [oo_ 14 (.fa 2
 (.t 6)) [],oo_ 15 (.load true 1 (.t 14)) [0],oo_ 16 (.call 197 [(.t 15)]) [1],om_ 17 7 [],on_ (.store 3 (.t 4) (.t 16)) [2,2,0,1,2],om_ 5 17 [3,4,0,1,2,3,4]]) .ret)))
theorem o_i3 : fnOf Tryz.prog o_i1 = some (o_i2, [.cell 4 true 3, .t 5], 18, false) := by kernel_rfl

abbrev o_i4 : FuncId := 305
def o_i5 : C := (.seq (.reg false [oo_ 4 (.new 47 [.nilsl,(.bool false),.nilsl]) [],oo_ 5 (.mv (.d (.int .i64 0))) []]) (.seq (.reg false [om_ 9 0 [],om_ 10 1 [],oo_ 11 (.call 308 [(.t 9),(.t 10)]) [0,1],om_ 8 11 [2],oo_ 12 (.ext (.t
 8) 0) [3],oo_ 13 (.ext (.t 8) 1) [3],oo_ 6 (.new 326 [(.int .i64 0),(.int .i64 0),.nilsl,.nilsl]) [],on_ (.store 4 (.t 6) (.t 12)) [6,4,2,0,1,2,3,4,6],om_ 7 13 [5,7,0,1,2,3,4,5,6,7]]) (.seq (.seq (.reg false [om_ 14 7
 [],oo_ 15 (.bin .neq (.t 14) (.d (.int .i64 0))) [0]]) (.cond (.t 15) (.seq (.reg false [oo_ 16 (.build [.nilsl,(.bool false),.nilsl] []) [],om_ 17 7 [],on_ (.store 3 (.t 4) (.t 16)) [0,0],om_ 5 17 [1,2,0,1,2]]) .ret)
 .skip)) (.seq (.reg false [oo_ 18 (.fa 1 (.t 6)) [],oo_ 19 (.load false 1 (.t 18)) [0],oo_ 20 (.call 184 [(.t 19)]) [1],oo_ 21 (.ext (.t 20) 0) [2],oo_ 22 (.ext (.t 20) 1) [2],on_ (.store 3 (.t 4) (.t 21))
 [3,2,0,1,2,3,4],om_ 5 22 [4,5,0,1,2,3,4,5]]) .ret))))
theorem o_i6 : fnOf Tryz.prog o_i4 = some (o_i5, [.cell 4 true 3, .t 5], 23, false) := by kernel_rfl

abbrev o_i7 : FuncId := 306
def o_i8 : C := (.seq (.reg false [oo_ 2 (.mv (.d (.bool false))) []]) (.seq (.reg false [om_ 3 0 [],oo_ 4 (.bin .geq (.t 3) (.d (.int .i64 1))) [0],om_ 5 4 [1],og_ 6 (.mv (.t 0)) 5 true [2],og_ 7 (.bin .leq (.t 6) (.d (.int .i64 5)))
 5 true [3,2],oo_ 8 (.pick (.t 5) (.t 7) (.d (.bool false))) [2,4],om_ 2 8 [5,2,0,1,2,3,4,5]]) .ret))
theorem o_i9 : fnOf Tryz.prog o_i7 = some (o_i8, [.t 2], 9, false) := by kernel_rfl

abbrev o_ia : FuncId := 308
def o_ib : C := (.seq (.reg false [oo_ 3 (.box 3 (.t 1)) [],oo_ 4 (.new 326 [(.int .i64 0),(.int .i64 0),.nilsl,.nilsl]) [],oo_ 5 (.mv (.d (.int .i64 0))) []]) (.seq (.block 0 (.seq (.reg false [om_ 10 0 [],oo_ 11 (.call 306 [(.t 10)])
 [0],oo_ 12 (.un .not (.t 11)) [1],om_ 9 12 [2,1]]) (.cond (.t 9) (.seq (.reg false [oo_ 13 (.build [(.int .i64 0),(.int .i64 0),.nilsl,.nilsl] []) [],on_ (.store 4 (.t 4) (.t 13)) [0,0],oo_ 5 (.mv (.d (.int .i64 10)))
 [1,0,1]]) .ret) (.seq (.reg false [oo_ 15 (.load false 1 (.t 3)) [],oo_ 16 (.bin .lss (.t 15) (.d (.int .i64 0))) [0],om_ 17 16 [1],og_ 18 (.load false 1 (.t 3)) 17 false [2],og_ 19 (.bin .gtr (.t 18) (.d (.int .i64
 1023))) 17 false [3,2],oo_ 20 (.pick (.t 17) (.d (.bool true)) (.t 19)) [2,4],om_ 14 20 [5,2]]) (.cond (.t 14) (.seq (.reg false [oo_ 21 (.build [(.int .i64 0),(.int .i64 0),.nilsl,.nilsl] []) [],on_ (.store 4 (.t 4)
 (.t 21)) [0,0],oo_ 5 (.mv (.d (.int .i64 2))) [1,0,1]]) .ret) .skip))))) (.seq (.reg false [oo_ 6 (.new 326 [(.int .i64 0),(.int .i64 0),.nilsl,.nilsl]) []]) (.seq (.seq (.reg false [om_ 22 0 [],oo_ 23 (.call 309 [(.t
 22)]) [0]]) (.block 1 .bad)) (.seq (.reg false [oo_ 30 (.load true 4 (.t 6)) [],on_ (.store 4 (.t 4) (.t 30)) [0,0],oo_ 5 (.mv (.d (.int .i64 0))) [1,0,1]]) .ret)))))
theorem o_ic : fnOf Tryz.prog o_ia = some (o_ib, [.cell 4 true 4, .t 5], 31, false) := by kernel_rfl

abbrev n_yu_walk : FuncId := 309
def c_yu_walk : C := (.seq (.reg false [oo_ 1 (.box 3 (.t 0)) [],oo_ 2 (.mv (.d .nilfn)) []]) (.seq (.reg false [oo_ 3 (.mkf (.func 310) [(.t 1)]) [],om_ 2 3 [0,0]]) .ret))
theorem r_yu_walk : fnOf Tryz.prog n_yu_walk = some (c_yu_walk, [.t 2], 4, false) := by kernel_rfl

abbrev o_id : FuncId := 310
def o_ie : C := (.seq (.reg false [oo_ 5 (.load false 1 (.t 1)) [],oo_ 6 (.bin .mul (.d (.int .i64 2)) (.t 5)) [0],oo_ 7 (.bin .shl (.d (.int .u64 1)) (.t 6)) [1],oo_ 8 (.bsl 199 1 1 [(.int .u64 0)] [(0,1,(.t 7))]) [2],oo_ 9 (.call 132
 [(.t 8)]) [3],oo_ 10 (.build [(.int .i64 0),(.int .i64 0),.nilsl,.nilsl] [(3,1,(.t 9))]) [4],oo_ 3 (.new 326 [(.int .i64 0),(.int .i64 0),.nilsl,.nilsl]) [],on_ (.store 4 (.t 3) (.t 10)) [6,5,4,0,1,2,3,4,5,6]]) (.seq
 (.reg false [oo_ 4 (.mv (.d (.int .i64 0))) []]) (.block 0 (.loop (.seq (.seq (.reg false [om_ 11 4 [],oo_ 12 (.bin .leq (.t 11) (.d (.int .i64 1023))) [0]]) (.cond (.t 12) .skip (.exit 0))) (.seq (.block 1 (.seq (.seq
 (.reg false [om_ 15 0 [],om_ 16 4 [],oo_ 17 (.load true 4 (.t 3)) [],oo_ 18 (.callv (.t 15) [(.t 16),(.t 17)]) [0,1,2],oo_ 19 (.un .not (.t 18)) [3]]) (.cond (.t 19) .ret .skip)) (.reg false [oo_ 20 (.load true 4 (.t
 3)) [],oo_ 21 (.load false 1 (.t 1)) [],oo_ 22 (.call 311 [(.t 20),(.t 21)]) [0,1],on_ (.store 4 (.t 3) (.t 22)) [2,2,0,1,2]]))) (.reg false [om_ 13 4 [],oo_ 14 (.bin .add (.t 13) (.d (.int .i64 1))) [0],om_ 4 14
 [1,0,1]])))))))
abbrev o_if : FuncId := 311
def o_ig : C := (.seq (.reg false [oo_ 2 (.box 326 (.t 0)) [],oo_ 4 (.new 326 [(.int .i64 0),(.int .i64 0),.nilsl,.nilsl]) []]) (.seq (.reg true [oo_ 8 (.bsl 199 1 1 [(.int .u64 0)] [(0,1,(.d (.int .u64 1)))]) [],oo_ 9 (.call 132 [(.t
 8)]) [0],oo_ 10 (.fa 1 (.t 2)) [],oo_ 11 (.load false 1 (.t 10)) [2],oo_ 12 (.call 211 [(.t 9),(.t 11)]) [1,3,1],om_ 7 12 [4],oo_ 13 (.ext (.t 7) 0) [5],oo_ 14 (.ext (.t 7) 1) [5],oo_ 5 (.new 43 [.nilsl]) [],on_ (.store
 1 (.t 5) (.t 13)) [8,6,4,0,1,2,3,4,5,6,8],om_ 6 14 [7,9,0,1,2,3,4,5,6,7,8,9]]) (.seq (.reg false [oo_ 15 (.fa 2 (.t 2)) [],oo_ 16 (.load true 1 (.t 15)) [0],oo_ 17 (.load true 1 (.t 5)) [],oo_ 18 (.call 157 [(.t 16),(.t
 17)]) [1,2],oo_ 19 (.fa 2 (.t 2)) [0,1,2,3],on_ (.store 1 (.t 19) (.t 18)) [4,3,3,0,1,2,3]]) (.seq (.seq (.reg false [oo_ 20 (.fa 2 (.t 2)) [],oo_ 21 (.load true 1 (.t 20)) [0],oo_ 22 (.fa 3 (.t 2)) [],oo_ 23 (.load
 true 1 (.t 22)) [2],oo_ 24 (.call 155 [(.t 21),(.t 23)]) [1,3],oo_ 25 (.bin .geq (.t 24) (.d (.int .i64 0))) [4]]) (.cond (.t 25) (.seq (.reg false [oo_ 26 (.fa 0 (.t 2)) [],oo_ 27 (.load false 1 (.t 26)) [0],oo_ 28
 (.bin .add (.t 27) (.d (.int .i64 1))) [1],oo_ 29 (.fa 0 (.t 2)) [0,1,2],on_ (.store 1 (.t 29) (.t 28)) [3,2,0,1,2]]) (.seq (.reg false [om_ 30 1 [],oo_ 31 (.fa 3 (.t 2)) [],oo_ 32 (.load true 1 (.t 31)) [1],oo_ 33
 (.call 312 [(.t 30),(.t 32)]) [0,2],oo_ 34 (.fa 3 (.t 2)) [0,1,2,3],on_ (.store 1 (.t 34) (.t 33)) [4,3,3,0,1,2,3]]) (.reg false [om_ 35 1 [],oo_ 36 (.fa 3 (.t 2)) [],oo_ 37 (.load true 1 (.t 36)) [1],oo_ 38 (.call 313
 [(.t 35),(.t 37)]) [0,2],oo_ 39 (.fa 1 (.t 2)) [0,1,2,3],on_ (.store 1 (.t 39) (.t 38)) [4,3,3,0,1,2,3]]))) .skip)) (.seq (.reg false [oo_ 40 (.load true 4 (.t 2)) [],on_ (.store 4 (.t 4) (.t 40)) [0,0]]) .ret)))))
theorem o_ih : fnOf Tryz.prog o_if = some (o_ig, [.cell 4 true 4], 41, false) := by kernel_rfl

abbrev o_ii : FuncId := 312
def o_ij : C := (.seq (.reg false [oo_ 3 (.box 43 (.t 1)) [],oo_ 4 (.new 43 [.nilsl]) []]) (.seq (.reg false [oo_ 8 (.load true 1 (.t 3)) [],om_ 9 0 [],oo_ 10 (.call 232 [(.t 8),(.t 9)]) [0,1],oo_ 5 (.new 43 [.nilsl]) [],on_ (.store 1
 (.t 5) (.t 10)) [3,2,2,0,1,2,3]]) (.seq (.seq (.reg false [oo_ 12 (.load true 1 (.t 5)) [],om_ 13 0 [],oo_ 14 (.call 211 [(.t 12),(.t 13)]) [0,1],om_ 11 14 [2],oo_ 15 (.ext (.t 11) 0) [3],oo_ 16 (.ext (.t 11) 1) [3],oo_
 6 (.new 43 [.nilsl]) [],on_ (.store 1 (.t 6) (.t 15)) [6,4,2,0,1,2,3,4,6],om_ 7 16 [5,7,0,1,2,3,4,5,6,7]]) (.seq (.reg false [oo_ 17 (.load true 1 (.t 6)) [],oo_ 18 (.load true 1 (.t 3)) [],oo_ 19 (.call 155 [(.t
 17),(.t 18)]) [0,1],oo_ 20 (.bin .lss (.t 19) (.d (.int .i64 0))) [2]]) (.cond (.t 20) (.reg true [oo_ 21 (.load true 1 (.t 5)) [],oo_ 22 (.bsl 199 1 1 [(.int .u64 0)] [(0,1,(.d (.int .u64 1)))]) [],oo_ 23 (.call 132
 [(.t 22)]) [1],oo_ 24 (.call 157 [(.t 21),(.t 23)]) [0,2,2],on_ (.store 1 (.t 5) (.t 24)) [3,3,0,1,2,3]]) .skip))) (.seq (.reg false [oo_ 25 (.load true 1 (.t 3)) [],oo_ 26 (.load true 1 (.t 5)) [],oo_ 27 (.call 157
 [(.t 25),(.t 26)]) [0,1],on_ (.store 1 (.t 4) (.t 27)) [2,2,0,1,2]]) .ret))))
theorem o_ik : fnOf Tryz.prog o_ii = some (o_ij, [.cell 4 true 1], 28, false) := by kernel_rfl

abbrev o_il : FuncId := 313
def o_im : C := (.seq (.reg false [oo_ 3 (.box 43 (.t 1)) [],oo_ 4 (.mv (.d (.int .i64 0))) []]) (.seq (.reg false [oo_ 5 (.load true 1 (.t 3)) [],oo_ 6 (.call 265 [(.t 5)]) [0],oo_ 7 (.bin .sub (.t 6) (.d (.int .i64 1))) [1],om_ 8 0
 [],oo_ 9 (.bin .mul (.d (.int .i64 2)) (.t 8)) [3],oo_ 10 (.bin .sub (.t 7) (.t 9)) [2,4],oo_ 11 (.mm true [(.d (.int .i64 0)),(.t 10)]) [5],om_ 4 11 [6,1,0,1,2,3,4,5,6]]) .ret))
theorem o_in : fnOf Tryz.prog o_il = some (o_im, [.t 4], 12, false) := by kernel_rfl

abbrev o_io : FuncId := 166
theorem o_ip : Tryz.prog.funcs[o_io]? = some Tryz.f166 := Tryz.func166
abbrev o_iq : FuncId := 208
theorem o_ir : Tryz.prog.funcs[o_iq]? = some Tryz.f208 := Tryz.func208
end
section
def wval : List Nat → Nat
 | [] => 0
 | x :: l => x + 18446744073709551616 * wval l
def small (ws : List Nat) : Prop := ∀ x ∈ ws, x < 18446744073709551616

theorem o_is : ∀ (a b : List Nat), wval (a ++ b) = wval a + 18446744073709551616 ^ a.length * wval b := by
 intro a
 induction a with
 | nil => intro b; simp [wval]
 | cons x a ih => intro b; simp only [List.cons_append, wval, List.length_cons]; rw [ih, Nat.pow_succ, Nat.mul_add, ← Nat.mul_assoc, Nat.mul_comm 18446744073709551616 (18446744073709551616 ^ a.length)]; omega
theorem o_it : ∀ n, wval (List.replicate n 0) = 0 := by
 intro n
 induction n with
 | zero => rfl
 | succ n ih => rw [List.replicate_succ, wval, ih]
theorem o_iu : ∀ {ws : List Nat}, small ws → wval ws < 18446744073709551616 ^ ws.length := by
 intro ws
 induction ws with
 | nil => intro _; simp [wval]
 | cons x l ih =>
  intro h
  have h1 := h x (by simp)
  have h2 := ih (fun y hy => h y (by simp [hy]))
  rw [wval, List.length_cons, Nat.pow_succ]
  omega

def trimN (ws : List Nat) : Nat → Nat
 | 0 => 0
 | n + 1 => if ws.getD n 0 = 0 then trimN ws n else n + 1
theorem o_iv (ws : List Nat) (n : Nat) (h : n < ws.length) : ws.take (n + 1) = ws.take n ++ [ws.getD n 0] := by
 rw [List.take_add_one, List.getElem?_eq_getElem h]
 simp [List.getD, List.getElem?_eq_getElem h]
theorem o_iw (ws : List Nat) : ∀ n, n ≤ ws.length → wval (ws.take (trimN ws n)) = wval (ws.take n) := by
 intro n
 induction n with
 | zero => intro _; rfl
 | succ n ih =>
  intro h
  unfold trimN
  split
  ·rename_i h0
   rw [ih (by omega), o_iv _ _ (by omega), o_is, h0]
   simp [wval]
  ·rfl
def top1 (ws : List Nat) : Prop := ∀ k, ws.length = k + 1 → ws.getD k 0 ≠ 0
theorem o_ix (ws : List Nat) : ∀ n, n ≤ ws.length → top1 (ws.take (trimN ws n)) := by
 intro n
 induction n with
 | zero => intro _ k hk; simp [trimN] at hk
 | succ n ih =>
  intro h
  unfold trimN
  split
  ·exact ih (by omega)
  ·rename_i h0
   intro k hk
   rw [List.length_take, Nat.min_eq_left h] at hk
   obtain rfl : n = k := by omega
   have e : (ws.take (n + 1)).getD n 0 = ws.getD n 0 := by simp [List.getD]
   rw [e]
   exact h0

theorem small.take {ws : List Nat} (h : small ws) (n : Nat) : small (ws.take n) := fun x hx => h x (List.mem_of_mem_take hx)

theorem o_iy {ws : List Nat} (h : small ws) (ht : top1 ws) (h0 : wval ws = 0) : ws = [] := by
 rcases ws.eq_nil_or_concat with rfl | ⟨l, x, rfl⟩
 ·rfl
 ·exfalso
  have := ht l.length (by simp)
  simp at this
  simp [o_is, wval] at h0
  rcases Nat.mul_eq_zero.1 h0.2 with h | h
  ·exact absurd h (Nat.pos_iff_ne_zero.1 (Nat.pow_pos (by decide)))
  ·exact this h

theorem o_iz : ∀ {a b : List Nat}, small a → small b → top1 a → top1 b → wval a = wval b → a = b := by
 intro a
 induction a with
 | nil => intro b _ hb _ tb h; exact (o_iy hb tb h.symm).symm
 | cons x a ih =>
  intro b ha hb ta tb h
  cases b with
  | nil => exact absurd (o_iy ha ta h) (by simp)
  | cons y b =>
   have h1 := ha x (by simp)
   have h2 := hb y (by simp)
   simp only [wval] at h
   have e : x = y := by omega
   subst e
   have e2 : wval a = wval b := by omega
   have e3 : a = b := ih (fun z hz => ha z (by simp [hz])) (fun z hz => hb z (by simp [hz])) (fun k hk => by have := ta (k + 1) (by simp [hk]); simpa using this) (fun k hk => by have := tb (k + 1) (by simp [hk]); simpa using this) e2
   rw [e3]

def movedL (k : Nat) : Nat → List Nat → List Nat
 | c, [] => [c]
 | c, x :: l => ((x * 2 ^ k) % 18446744073709551616 + c) :: movedL k (x * 2 ^ k / 18446744073709551616) l
theorem o_j0 (k : Nat) : ∀ (l : List Nat) (c : Nat), (movedL k c l).length = l.length + 1 := by
 intro l
 induction l with
 | nil => intro c; rfl
 | cons x l ih => intro c; simp [movedL, ih]
theorem o_j1 (k : Nat) : ∀ (l : List Nat) (c : Nat), wval (movedL k c l) = wval l * 2 ^ k + c := by
 intro l
 induction l with
 | nil => intro c; simp [movedL, wval]
 | cons x l ih =>
  intro c
  rw [movedL, wval, ih, wval]
  have := Nat.div_add_mod (x * 2 ^ k) 18446744073709551616
  rw [Nat.add_mul, Nat.mul_add, Nat.mul_assoc]
  omega
theorem o_j2 {k : Nat} (hk : k < 64) : ∀ {l : List Nat} {c : Nat}, small l → c < 2 ^ k → small (movedL k c l) := by
 have p64 : (18446744073709551616 : Nat) = 2 ^ (64 - k) * 2 ^ k := by rw [← Nat.pow_add, show 64 - k + k = 64 by omega]
 intro l
 induction l with
 | nil =>
  intro c _ hc x hx
  simp [movedL] at hx; subst hx
  exact Nat.lt_trans hc (by rw [show (18446744073709551616 : Nat) = 2 ^ 64 by decide]; exact Nat.pow_lt_pow_right (by decide) hk)
 | cons y l ih =>
  intro c h hc x hx
  simp only [movedL, List.mem_cons] at hx
  have hy := h y (by simp)
  rcases hx with rfl | hx
  ·rw [p64, Nat.mul_mod_mul_right]
   have : y % 2 ^ (64 - k) < 2 ^ (64 - k) := Nat.mod_lt _ (Nat.pow_pos (by decide))
   calc _ < y % 2 ^ (64 - k) * 2 ^ k + 2 ^ k := by omega
    _ = (y % 2 ^ (64 - k) + 1) * 2 ^ k := by rw [Nat.add_mul, Nat.one_mul]
    _ ≤ _ := Nat.mul_le_mul_right _ this
  ·refine ih (fun z hz => h z (by simp [hz])) ?_ x hx
   apply Nat.div_lt_of_lt_mul
   exact Nat.mul_lt_mul_of_pos_right hy (Nat.pow_pos (by decide))

def movedB (k : Nat) : Nat → List Nat → List Nat
 | _, [] => []
 | c, x :: l => ((x * 2 ^ k) % 18446744073709551616 + c) :: movedB k (x * 2 ^ k / 18446744073709551616) l
def movedC (k : Nat) : Nat → List Nat → Nat
 | c, [] => c
 | _, x :: l => movedC k (x * 2 ^ k / 18446744073709551616) l
theorem o_j3 (k : Nat) : ∀ (l : List Nat) (c : Nat), movedL k c l = movedB k c l ++ [movedC k c l] := by
 intro l
 induction l with
 | nil => intro c; rfl
 | cons x l ih => intro c; simp [movedL, movedB, movedC, ih]
theorem o_j4 (k : Nat) (l : List Nat) (c : Nat) : (movedB k c l).length = l.length := by
 have h := o_j0 k l c
 rw [o_j3, List.length_append] at h
 simpa using h
theorem o_j5 (k : Nat) (x : Nat) : ∀ (l : List Nat) (c : Nat), movedB k c (l ++ [x]) = movedB k c l ++ [(x * 2 ^ k) % 18446744073709551616 + movedC k c l] := by
 intro l
 induction l with
 | nil => intro c; rfl
 | cons y l ih => intro c; simp [movedB, movedC, ih]
theorem o_j6 (k : Nat) (x : Nat) : ∀ (l : List Nat) (c : Nat), movedC k c (l ++ [x]) = x * 2 ^ k / 18446744073709551616 := by
 intro l
 induction l with
 | nil => intro c; rfl
 | cons y l ih => intro c; simp [movedC, ih]
theorem o_j7 {k x : Nat} (hx : x < 18446744073709551616) : x * 2 ^ k / 18446744073709551616 < 2 ^ k := by
 apply Nat.div_lt_of_lt_mul
 exact Nat.mul_lt_mul_of_pos_right hx (Nat.pow_pos (by decide))
theorem o_j8 {k : Nat} : ∀ {l : List Nat} {c : Nat}, small l → c < 2 ^ k → movedC k c l < 2 ^ k := by
 intro l
 induction l with
 | nil => intro c _ hc; exact hc
 | cons x l ih => intro c h hc; exact ih (fun z hz => h z (by simp [hz])) (o_j7 (h x (by simp)))
theorem o_j9 {k x c : Nat} (hk : k < 64) (hc : c < 2 ^ k) : c ||| (x * 2 ^ k) % 18446744073709551616 = (x * 2 ^ k) % 18446744073709551616 + c := by
 have p64 : (18446744073709551616 : Nat) = 2 ^ (64 - k) * 2 ^ k := by rw [← Nat.pow_add, show 64 - k + k = 64 by omega]
 rw [p64, Nat.mul_mod_mul_right, Nat.or_comm, Nat.mul_comm]
 exact (Nat.two_pow_add_eq_or_of_lt hc _).symm
theorem o_ja {k x : Nat} (hk : k ≤ 64) : x * 2 ^ k / 18446744073709551616 = x / 2 ^ (64 - k) := by
 have p64 : (18446744073709551616 : Nat) = 2 ^ (64 - k) * 2 ^ k := by rw [← Nat.pow_add, show 64 - k + k = 64 by omega]
 rw [p64, Nat.mul_div_mul_right _ _ (Nat.pow_pos (by decide))]

theorem o_jb : ∀ {ws : List Nat} {m : Nat}, top1 ws → wval ws < 18446744073709551616 ^ m → ws.length ≤ m := by
 intro ws
 induction ws with
 | nil => intro m _ _; exact Nat.zero_le _
 | cons x l ih =>
  intro m ht h
  cases m with
  | zero =>
   exfalso
   rw [Nat.pow_zero] at h
   rw [wval] at h
   cases l with
   | nil =>
    have := ht 0 rfl
    simp [wval] at this h
    omega
   | cons y l =>
    have hw : wval (y :: l) = 0 := by omega
    have : (y :: l).length ≤ 0 := ih (m := 0) (fun k hk => by have := ht (k + 1) (by simp [hk]); simpa using this) (by rw [hw]; decide)
    simp at this
  | succ m =>
   rw [List.length_cons]
   have : l.length ≤ m := by
    cases l with
    | nil => exact Nat.zero_le _
    | cons y l =>
     refine ih (fun k hk => by have := ht (k + 1) (by simp [hk]); simpa using this) ?_
     rw [wval, Nat.pow_succ] at h
     omega
   omega

theorem o_jc (f : Nat → Nat) (n : Nat) : wval ((List.range (n + 1)).map f) = wval ((List.range n).map f) + 18446744073709551616 ^ n * f n := by
 rw [List.range_succ, List.map_append, o_is]
 simp [wval]
theorem o_jd (l : List Nat) (n : Nat) : wval (l.take (n + 1)) = wval (l.take n) + 18446744073709551616 ^ n * l.getD n 0 := by
 by_cases h : n < l.length
 ·rw [o_iv _ _ h, o_is, List.length_take, Nat.min_eq_left (Nat.le_of_lt h)]
  simp [wval]
 ·rw [List.take_of_length_le (by omega), List.take_of_length_le (by omega)]
  simp [List.getD, List.getElem?_eq_none (show l.length ≤ n by omega)]

def carryW (a b : List Nat) : Nat → Nat
 | 0 => 0
 | n + 1 => (a.getD n 0 + b.getD n 0 + carryW a b n) / 18446744073709551616
def addW (a b : List Nat) (n : Nat) : Nat := (a.getD n 0 + b.getD n 0 + carryW a b n) % 18446744073709551616

theorem small.getD {l : List Nat} (h : small l) (n : Nat) : l.getD n 0 < 18446744073709551616 := by
 by_cases hn : n < l.length
 ·rw [List.getD, List.getElem?_eq_getElem hn]; exact h _ (List.getElem_mem hn)
 ·simp [List.getD, List.getElem?_eq_none (show l.length ≤ n by omega)]
theorem o_je {a b : List Nat} (ha : small a) (hb : small b) : ∀ n, carryW a b n ≤ 1 := by
 intro n
 induction n with
 | zero => exact Nat.zero_le _
 | succ n ih =>
  have h1 := ha.getD n
  have h2 := hb.getD n
  simp only [carryW]
  omega
theorem o_jf (a b : List Nat) : ∀ n, wval ((List.range n).map (addW a b)) + 18446744073709551616 ^ n * carryW a b n = wval (a.take n) + wval (b.take n) := by
 intro n
 induction n with
 | zero => simp [wval, carryW]
 | succ n ih =>
  rw [o_jc, o_jd, o_jd]
  have := Nat.div_add_mod (a.getD n 0 + b.getD n 0 + carryW a b n) 18446744073709551616
  simp only [addW, carryW]
  rw [Nat.pow_succ]
  generalize 18446744073709551616 ^ n = P at *
  generalize (a.getD n 0 + b.getD n 0 + carryW a b n) / 18446744073709551616 = q at *
  generalize (a.getD n 0 + b.getD n 0 + carryW a b n) % 18446744073709551616 = r at *
  have e : P * (18446744073709551616 * q + r) = P * a.getD n 0 + P * b.getD n 0 + P * carryW a b n := by rw [this]; simp [Nat.mul_add]
  rw [Nat.mul_add, ← Nat.mul_assoc] at e
  omega

def borrowW (a b : List Nat) : Nat → Nat
 | 0 => 0
 | n + 1 => if a.getD n 0 < b.getD n 0 + borrowW a b n then 1 else 0
def subW (a b : List Nat) (n : Nat) : Nat := (a.getD n 0 + 18446744073709551616 - b.getD n 0 - borrowW a b n) % 18446744073709551616
theorem o_jg (a b : List Nat) : ∀ n, borrowW a b n ≤ 1 := by
 intro n
 cases n with
 | zero => exact Nat.zero_le _
 | succ n => simp only [borrowW]; split <;> omega
theorem o_jh {a b : List Nat} (ha : small a) (hb : small b) : ∀ n, wval ((List.range n).map (subW a b)) + wval (b.take n) = wval (a.take n) + 18446744073709551616 ^ n * borrowW a b n := by
 intro n
 induction n with
 | zero => simp [wval, borrowW]
 | succ n ih =>
  rw [o_jc, o_jd, o_jd]
  have h1 := ha.getD n
  have h2 := hb.getD n
  have h3 := o_jg a b n
  have e : subW a b n + b.getD n 0 + borrowW a b n = a.getD n 0 + 18446744073709551616 * borrowW a b (n + 1) := by
   simp only [subW, borrowW]
   split <;> omega
  rw [Nat.pow_succ, Nat.mul_assoc]
  generalize 18446744073709551616 ^ n = P at *
  have e2 : P * subW a b n + P * b.getD n 0 + P * borrowW a b n = P * a.getD n 0 + P * (18446744073709551616 * borrowW a b (n + 1)) := by rw [← Nat.mul_add, ← Nat.mul_add, e, Nat.mul_add]
  omega
theorem o_ji {f : Nat → Nat} (h : ∀ i, f i < 18446744073709551616) (n : Nat) : small ((List.range n).map f) := by
 intro x hx
 obtain ⟨i, _, rfl⟩ := List.mem_map.1 hx
 exact h i
theorem o_jj (a b : List Nat) (i : Nat) : addW a b i < 18446744073709551616 := Nat.mod_lt _ (by decide)
theorem o_jk (a b : List Nat) (i : Nat) : subW a b i < 18446744073709551616 := Nat.mod_lt _ (by decide)

theorem o_jl {a b : List Nat} (ha : small a) (hb : top1 b) (h : a.length < b.length) : wval a < wval b := by
 refine Nat.lt_of_lt_of_le (o_iu ha) ?_
 apply Nat.le_of_not_lt
 intro hlt
 have := o_jb hb hlt
 omega
def cmpN (a b : List Nat) : Nat → Int
 | 0 => 0
 | n + 1 => if a.getD n 0 < b.getD n 0 then -1 else if b.getD n 0 < a.getD n 0 then 1 else cmpN a b n
theorem o_jm {l : List Nat} (h : small l) (n : Nat) : wval (l.take n) < 18446744073709551616 ^ n := by
 have := o_iu (h.take n)
 rw [List.length_take] at this
 exact Nat.lt_of_lt_of_le this (Nat.pow_le_pow_right (by decide) (Nat.min_le_left _ _))
theorem o_jn {a b : List Nat} (ha : small a) (hb : small b) : ∀ n, cmpN a b n = if wval (a.take n) < wval (b.take n) then -1 else if wval (b.take n) < wval (a.take n) then 1 else 0 := by
 intro n
 induction n with
 | zero => simp [cmpN, wval]
 | succ n ih =>
  rw [o_jd, o_jd]
  have h1 := o_jm ha n
  have h2 := o_jm hb n
  simp only [cmpN]
  generalize 18446744073709551616 ^ n = P at *
  generalize a.getD n 0 = x at *
  generalize b.getD n 0 = y at *
  by_cases hxy : x < y
  ·rw [if_pos hxy, if_pos]
   have : P * (x + 1) ≤ P * y := Nat.mul_le_mul_left _ hxy
   rw [Nat.mul_add] at this
   omega
  ·rw [if_neg hxy]
   by_cases hyx : y < x
   ·have : P * (y + 1) ≤ P * x := Nat.mul_le_mul_left _ hyx
    rw [Nat.mul_add] at this
    rw [if_pos hyx, if_neg (by omega), if_pos (by omega)]
   ·obtain rfl : x = y := by omega
    rw [if_neg hyx, ih]
    simp only [Nat.add_lt_add_iff_right]
def cmpZ (m n : Nat) : Int := if m < n then -1 else if n < m then 1 else 0
end
end Go.Proofs.YtjbcbbfhcbnncaaGreatDoor.Am
