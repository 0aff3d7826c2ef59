/- Parts of the proof: AmTac, CodeD, WordsM, Nat1, Nat2, Nat3, Nat4, Nat5, Nat6. -/
import Derived.Test.YtmpjlkclkhnpfaaGreatDoorPb
set_option linter.unusedVariables false
set_option linter.unusedSimpArgs false
set_option maxRecDepth 100000
namespace Go.Proofs.YtmpjlkclkhnpfaaGreatDoor.Am
section
open Go.RowKit
inductive Tri : Prop → Prop
 | tt : Tri True
 | any (p : Prop) : Tri p
structure Hid (p : Prop) : Prop where
 v : p
theorem tt : True := True.intro
theorem fs {a b : Prop} (x : a) (y : b) : a ∧ b := And.intro x y
theorem G0 {q p : Prop} (hp : p) (h : (Hid p → q) ∧ Tri p := by
 constructor
 ·intro hp
  repeat (first | refine AW.seq ?_ | refine AW.block ?_ | (refine AW.reg mix ?_; (simp -implicitDefEqProofs; try simp (disch := omega) only [w64, wu64])) | (refine need.of (by first | omega | kernel_rfl) ?_) | (refine AW.fin ?_; try (simp -implicitDefEqProofs; try simp (disch := omega) only [w64, wu64])))
  try exact hp.v
 ·with_reducible first | exact Tri.tt | exact Tri.any _) : q := (h).1 ⟨hp⟩
theorem R0 {q p : Prop} (hp : p) (h : (Hid p → q) ∧ Tri p := by
 constructor
 ·intro hp
  try (simp -implicitDefEqProofs; try simp (disch := omega) only [w64, wu64])
  repeat (first | refine AW.seq ?_ | refine AW.block ?_ | (refine AW.reg mix ?_; (simp -implicitDefEqProofs; try simp (disch := omega) only [w64, wu64])) | (refine need.of (by first | omega | kernel_rfl) ?_) | (refine AW.fin ?_; try (simp -implicitDefEqProofs; try simp (disch := omega) only [w64, wu64])))
  try exact hp.v
 ·with_reducible first | exact Tri.tt | exact Tri.any _) : q := (h).1 ⟨hp⟩
theorem A00 {q p : Prop} (hp : p) (h : (Hid p → q) ∧ Tri p := by
 constructor
 ·intro hp
  repeat (first | refine AW.seq ?_ | refine AW.block ?_ | (refine AW.reg mix ?_; (simp -implicitDefEqProofs; try simp (disch := omega) only [w64, wu64])) | (refine need.of (by first | omega | kernel_rfl) ?_) | (refine AW.fin ?_; try (simp -implicitDefEqProofs; try simp (disch := omega) only [w64, wu64])) | (refine AW.cond rfl ?_ (fun _ => ?_); focus (intro h; simp -implicitDefEqProofs at h; done)) | (refine AW.cond rfl (fun _ => ?_) ?_; rotate_left; focus (intro h; simp -implicitDefEqProofs at h; done)))
  try exact hp.v
 ·with_reducible first | exact Tri.tt | exact Tri.any _) : q := (h).1 ⟨hp⟩
theorem A01 {q p c1 : Prop} (k1 : c1) (hp : p) (h : c1 → (Hid p → q) ∧ Tri p := by
 intro c1
 constructor
 ·intro hp
  repeat (first | refine AW.seq ?_ | refine AW.block ?_ | (refine AW.reg mix ?_; (simp -implicitDefEqProofs; try simp (disch := omega) only [w64, wu64])) | (refine need.of (by first | omega | kernel_rfl) ?_) | (refine AW.fin ?_; try (simp -implicitDefEqProofs; try simp (disch := omega) only [w64, wu64])) | (refine AW.cond rfl ?_ (fun _ => ?_); focus (intro h; simp -implicitDefEqProofs at h; done)) | (refine AW.cond rfl (fun _ => ?_) ?_; rotate_left; focus (intro h; simp -implicitDefEqProofs at h; done)) | (refine CallS.pu c1 ?_; try (simp -implicitDefEqProofs; try simp (disch := omega) only [w64, wu64])) | refine Exists.intro _ (And.intro c1 ?_))
  try exact hp.v
 ·with_reducible first | exact Tri.tt | exact Tri.any _) : q := (h k1).1 ⟨hp⟩
theorem G1 {q f1 : Prop} {p : f1 → Prop} (f : f1) (hp : (p f)) (h : ∀ f1 : f1, (Hid (p f1) → q) ∧ Tri (p f1) := by
 intro f1
 constructor
 ·intro hp
  repeat (first | refine AW.seq ?_ | refine AW.block ?_ | (refine AW.reg mix ?_; (simp -implicitDefEqProofs [f1]; try simp (disch := omega) only [w64, wu64])) | (refine need.of (by first | omega | kernel_rfl) ?_) | (refine AW.fin ?_; try (simp -implicitDefEqProofs [f1]; try simp (disch := omega) only [w64, wu64])))
  try exact hp.v
 ·with_reducible first | exact Tri.tt | exact Tri.any _) : q := (h f).1 ⟨hp⟩
theorem R1 {q f1 : Prop} {p : f1 → Prop} (f : f1) (hp : (p f)) (h : ∀ f1 : f1, (Hid (p f1) → q) ∧ Tri (p f1) := by
 intro f1
 constructor
 ·intro hp
  try (simp -implicitDefEqProofs [f1]; try simp (disch := omega) only [w64, wu64])
  repeat (first | refine AW.seq ?_ | refine AW.block ?_ | (refine AW.reg mix ?_; (simp -implicitDefEqProofs [f1]; try simp (disch := omega) only [w64, wu64])) | (refine need.of (by first | omega | kernel_rfl) ?_) | (refine AW.fin ?_; try (simp -implicitDefEqProofs [f1]; try simp (disch := omega) only [w64, wu64])))
  try exact hp.v
 ·with_reducible first | exact Tri.tt | exact Tri.any _) : q := (h f).1 ⟨hp⟩
theorem A10 {q f1 : Prop} {p : f1 → Prop} (f : f1) (hp : (p f)) (h : ∀ f1 : f1, (Hid (p f1) → q) ∧ Tri (p f1) := by
 intro f1
 constructor
 ·intro hp
  repeat (first | refine AW.seq ?_ | refine AW.block ?_ | (refine AW.reg mix ?_; (simp -implicitDefEqProofs [f1]; try simp (disch := omega) only [w64, wu64])) | (refine need.of (by first | omega | kernel_rfl) ?_) | (refine AW.fin ?_; try (simp -implicitDefEqProofs [f1]; try simp (disch := omega) only [w64, wu64])) | (refine AW.cond rfl ?_ (fun _ => ?_); focus (intro h; simp -implicitDefEqProofs [f1] at h; done)) | (refine AW.cond rfl (fun _ => ?_) ?_; rotate_left; focus (intro h; simp -implicitDefEqProofs [f1] at h; done)))
  try exact hp.v
 ·with_reducible first | exact Tri.tt | exact Tri.any _) : q := (h f).1 ⟨hp⟩
theorem A11 {q f1 c1 : Prop} {p : f1 → Prop} (f : f1) (k1 : c1) (hp : (p f)) (h : ∀ f1 : f1, c1 → (Hid (p f1) → q) ∧ Tri (p f1) := by
 intro f1 c1
 constructor
 ·intro hp
  repeat (first | refine AW.seq ?_ | refine AW.block ?_ | (refine AW.reg mix ?_; (simp -implicitDefEqProofs [f1]; try simp (disch := omega) only [w64, wu64])) | (refine need.of (by first | omega | kernel_rfl) ?_) | (refine AW.fin ?_; try (simp -implicitDefEqProofs [f1]; try simp (disch := omega) only [w64, wu64])) | (refine AW.cond rfl ?_ (fun _ => ?_); focus (intro h; simp -implicitDefEqProofs [f1] at h; done)) | (refine AW.cond rfl (fun _ => ?_) ?_; rotate_left; focus (intro h; simp -implicitDefEqProofs [f1] at h; done)) | (refine CallS.pu c1 ?_; try (simp -implicitDefEqProofs [f1]; try simp (disch := omega) only [w64, wu64])) | refine Exists.intro _ (And.intro c1 ?_))
  try exact hp.v
 ·with_reducible first | exact Tri.tt | exact Tri.any _) : q := (h f k1).1 ⟨hp⟩
theorem A12 {q f1 c1 c2 : Prop} {p : f1 → Prop} (f : f1) (k1 : c1) (k2 : c2) (hp : (p f)) (h : ∀ f1 : f1, c1 → c2 → (Hid (p f1) → q) ∧ Tri (p f1) := by
 intro f1 c1 c2
 constructor
 ·intro hp
  repeat (first | refine AW.seq ?_ | refine AW.block ?_ | (refine AW.reg mix ?_; (simp -implicitDefEqProofs [f1]; try simp (disch := omega) only [w64, wu64])) | (refine need.of (by first | omega | kernel_rfl) ?_) | (refine AW.fin ?_; try (simp -implicitDefEqProofs [f1]; try simp (disch := omega) only [w64, wu64])) | (refine AW.cond rfl ?_ (fun _ => ?_); focus (intro h; simp -implicitDefEqProofs [f1] at h; done)) | (refine AW.cond rfl (fun _ => ?_) ?_; rotate_left; focus (intro h; simp -implicitDefEqProofs [f1] at h; done)) | (refine CallS.pu c1 ?_; try (simp -implicitDefEqProofs [f1]; try simp (disch := omega) only [w64, wu64])) | refine Exists.intro _ (And.intro c1 ?_) | (refine CallS.pu c2 ?_; try (simp -implicitDefEqProofs [f1]; try simp (disch := omega) only [w64, wu64])) | refine Exists.intro _ (And.intro c2 ?_))
  try exact hp.v
 ·with_reducible first | exact Tri.tt | exact Tri.any _) : q := (h f k1 k2).1 ⟨hp⟩
theorem G0B {q p : Prop} (hp : p) (h : (Hid p → q) ∧ Tri p := by
 constructor
 ·intro hp
  repeat (first | refine AW.seq ?_ | refine AW.block ?_ | (refine AW.reg mix ?_; (simp -implicitDefEqProofs [-Bool.exists_bool]; try simp (disch := omega) only [w64, wu64])) | (refine need.of (by first | omega | kernel_rfl) ?_) | (refine AW.fin ?_; try (simp -implicitDefEqProofs [-Bool.exists_bool]; try simp (disch := omega) only [w64, wu64])))
  try exact hp.v
 ·with_reducible first | exact Tri.tt | exact Tri.any _) : q := (h).1 ⟨hp⟩
theorem R0B {q p : Prop} (hp : p) (h : (Hid p → q) ∧ Tri p := by
 constructor
 ·intro hp
  try (simp -implicitDefEqProofs [-Bool.exists_bool]; try simp (disch := omega) only [w64, wu64])
  repeat (first | refine AW.seq ?_ | refine AW.block ?_ | (refine AW.reg mix ?_; (simp -implicitDefEqProofs [-Bool.exists_bool]; try simp (disch := omega) only [w64, wu64])) | (refine need.of (by first | omega | kernel_rfl) ?_) | (refine AW.fin ?_; try (simp -implicitDefEqProofs [-Bool.exists_bool]; try simp (disch := omega) only [w64, wu64])))
  try exact hp.v
 ·with_reducible first | exact Tri.tt | exact Tri.any _) : q := (h).1 ⟨hp⟩
theorem A06B {q p c1 c2 c3 c4 c5 c6 : Prop} (k1 : c1) (k2 : c2) (k3 : c3) (k4 : c4) (k5 : c5) (k6 : c6) (hp : p) (h : c1 → c2 → c3 → c4 → c5 → c6 → (Hid p → q) ∧ Tri p := by
 intro c1 c2 c3 c4 c5 c6
 constructor
 ·intro hp
  repeat (first | refine AW.seq ?_ | refine AW.block ?_ | (refine AW.reg mix ?_; (simp -implicitDefEqProofs [-Bool.exists_bool]; try simp (disch := omega) only [w64, wu64])) | (refine need.of (by first | omega | kernel_rfl) ?_) | (refine AW.fin ?_; try (simp -implicitDefEqProofs [-Bool.exists_bool]; try simp (disch := omega) only [w64, wu64])) | (refine AW.cond rfl ?_ (fun _ => ?_); focus (intro h; simp -implicitDefEqProofs [-Bool.exists_bool] at h; done)) | (refine AW.cond rfl (fun _ => ?_) ?_; rotate_left; focus (intro h; simp -implicitDefEqProofs [-Bool.exists_bool] at h; done)) | (refine CallS.pu c1 ?_; try (simp -implicitDefEqProofs [-Bool.exists_bool]; try simp (disch := omega) only [w64, wu64])) | refine Exists.intro _ (And.intro c1 ?_) | (refine CallS.pu c2 ?_; try (simp -implicitDefEqProofs [-Bool.exists_bool]; try simp (disch := omega) only [w64, wu64])) | refine Exists.intro _ (And.intro c2 ?_) | (refine CallS.pu c3 ?_; try (simp -implicitDefEqProofs [-Bool.exists_bool]; try simp (disch := omega) only [w64, wu64])) | refine Exists.intro _ (And.intro c3 ?_) | (refine CallS.pu c4 ?_; try (simp -implicitDefEqProofs [-Bool.exists_bool]; try simp (disch := omega) only [w64, wu64])) | refine Exists.intro _ (And.intro c4 ?_) | (refine CallS.pu c5 ?_; try (simp -implicitDefEqProofs [-Bool.exists_bool]; try simp (disch := omega) only [w64, wu64])) | refine Exists.intro _ (And.intro c5 ?_) | (refine CallS.pu c6 ?_; try (simp -implicitDefEqProofs [-Bool.exists_bool]; try simp (disch := omega) only [w64, wu64])) | refine Exists.intro _ (And.intro c6 ?_))
  try exact hp.v
 ·with_reducible first | exact Tri.tt | exact Tri.any _) : q := (h k1 k2 k3 k4 k5 k6).1 ⟨hp⟩
theorem G1B {q f1 : Prop} {p : f1 → Prop} (f : f1) (hp : (p f)) (h : ∀ f1 : f1, (Hid (p f1) → q) ∧ Tri (p f1) := by
 intro f1
 constructor
 ·intro hp
  repeat (first | refine AW.seq ?_ | refine AW.block ?_ | (refine AW.reg mix ?_; (simp -implicitDefEqProofs [-Bool.exists_bool, f1]; try simp (disch := omega) only [w64, wu64])) | (refine need.of (by first | omega | kernel_rfl) ?_) | (refine AW.fin ?_; try (simp -implicitDefEqProofs [-Bool.exists_bool, f1]; try simp (disch := omega) only [w64, wu64])))
  try exact hp.v
 ·with_reducible first | exact Tri.tt | exact Tri.any _) : q := (h f).1 ⟨hp⟩
end
end Go.Proofs.YtmpjlkclkhnpfaaGreatDoor.Am
namespace Go.Proofs.YtmpjlkclkhnpfaaGreatDoor.Am
section
open Go.Proofs.YtmpjlkclkhnpfaaGreatDoor.Am
theorem mix : Tryz.prog.follows .mixedOrders = true := by kernel_rfl
@[simp] def om_ (d s : Nat) (l : List Nat) : O := ⟨some d, .mv (.t s), none, l⟩
@[simp] def oo_ (d : Nat) (a : A) (l : List Nat) : O := ⟨some d, a, none, l⟩
@[simp] def og_ (d : Nat) (a : A) (s : Nat) (b : Bool) (l : List Nat) : O := ⟨some d, a, some (s, b), l⟩
@[simp] def on_ (a : A) (l : List Nat) : O := ⟨none, a, none, l⟩

abbrev o_6j : FuncId := 7
def o_6k : C := (.seq (.reg false [oo_ 3 (.box 68 (.t 0)) [],oo_ 6 (.mv (.d (.bool false))) []]) (.seq (.seq (.reg false [oo_ 19 (.call 37 []) [],oo_ 20 (.un .not (.t 19)) [0]]) (.cond (.t 20) (.seq (.reg false [oo_ 6 (.mv (.d (.bool
 false))) []]) .ret) .skip)) (.seq (.reg false [oo_ 22 (.load true 3 (.t 3)) [],oo_ 23 (.build [(.int .i64 0),(.int .i64 0),(.bool false)] []) [],oo_ 24 (.call 38 [(.t 22),(.t 23)]) [0,1],om_ 21 24 [2],oo_ 25 (.ext (.t
 21) 0) [3],oo_ 26 (.ext (.t 21) 1) [3],on_ (.store 3 (.t 3) (.t 25)) [4,2,0,1,2,3,4]]) (.seq (.seq (.reg false [oo_ 27 (.fa 0 (.t 3)) [],oo_ 28 (.load false 1 (.t 27)) [0],oo_ 29 (.bin .eql (.t 28) (.d (.int .i64 4)))
 [1]]) (.cond (.t 29) (.reg false [oo_ 30 (.fa 0 (.t 3)) [],on_ (.store 1 (.t 30) (.d (.int .i64 3))) [0],oo_ 31 (.fa 1 (.t 3)) [0,1],on_ (.store 1 (.t 31) (.d (.int .i64 1))) [2,1,0,1],oo_ 32 (.fa 2 (.t 3))
 [0,1,2,3],on_ (.store 1 (.t 32) (.d (.int .i64 3))) [4,3,0,1,2,3]]) .skip)) (.seq (.reg false [oo_ 33 (.fa 2 (.t 3)) [],oo_ 34 (.load false 1 (.t 33)) [0],oo_ 35 (.bin .rem (.t 34) (.d (.int .i64 3))) [1],oo_ 36 (.bin
 .add (.d (.int .i64 1)) (.t 35)) [2],oo_ 37 (.fa 2 (.t 3)) [0,1,2,3],on_ (.store 1 (.t 37) (.t 36)) [4,3,0,1,2,3]]) (.seq (.reg false [oo_ 38 (.load true 3 (.t 3)) [],oo_ 39 (.call 39 [(.t 38)]) [0],oo_ 7 (.new 73
 [(.int .i64 0),(.int .i64 0),(.int .i64 0)]) [],on_ (.store 3 (.t 7) (.t 39)) [2,1,1,0,1,2]]) (.seq (.reg false [om_ 40 1 [],oo_ 41 (.bin .and (.t 40) (.d (.int .i64 7))) [0],om_ 42 2 [],oo_ 43 (.bin .and (.t 42) (.d
 (.int .i64 7))) [2],om_ 1 41 [1,0,1],om_ 2 43 [3,4,0,1,2,3,4]]) (.seq (.reg false [oo_ 45 (.load true 3 (.t 7)) [],oo_ 46 (.build [(.int .i64 0),(.int .i64 0),(.bool false)] []) [],om_ 47 1 [],oo_ 48 (.call 40 [(.t
 45),(.t 46),(.t 47)]) [0,1,2],om_ 44 48 [3],oo_ 49 (.ext (.t 44) 0) [4],oo_ 50 (.ext (.t 44) 1) [4],om_ 8 49 [5,3,0,1,2,3,4,5],om_ 9 50 [6,7,0,1,2,3,4,5,6,7]]) (.seq (.reg false [oo_ 52 (.load true 3 (.t 7)) [],oo_ 53
 (.build [(.int .i64 0),(.int .i64 0),(.bool false)] []) [],om_ 54 2 [],oo_ 55 (.call 40 [(.t 52),(.t 53),(.t 54)]) [0,1,2],om_ 51 55 [3],oo_ 56 (.ext (.t 51) 0) [4],oo_ 57 (.ext (.t 51) 1) [4],om_ 10 56
 [5,3,0,1,2,3,4,5],om_ 11 57 [6,7,0,1,2,3,4,5,6,7]]) (.seq (.reg false [oo_ 59 (.load true 3 (.t 7)) [],om_ 60 8 [],om_ 61 10 [],oo_ 62 (.call 49 [(.t 59),(.t 60),(.t 61)]) [0,1,2],om_ 58 62 [3],oo_ 63 (.ext (.t 58) 0)
 [4],oo_ 64 (.ext (.t 58) 1) [4],om_ 12 63 [5,3,0,1,2,3,4,5],om_ 13 64 [6,7,0,1,2,3,4,5,6,7]]) (.seq (.reg false [oo_ 66 (.load true 3 (.t 7)) [],oo_ 67 (.build [(.int .i64 0),(.int .i64 0),(.bool false)] []) [],om_ 68 1
 [],om_ 69 2 [],oo_ 70 (.bin .add (.t 68) (.t 69)) [2,3],oo_ 71 (.call 40 [(.t 66),(.t 67),(.t 70)]) [0,1,4],om_ 65 71 [5],oo_ 72 (.ext (.t 65) 0) [6],oo_ 73 (.ext (.t 65) 1) [6],om_ 14 72 [7,5,0,1,2,3,4,5,6,7],om_ 15 73
 [8,9,0,1,2,3,4,5,6,7,8,9]]) (.seq (.seq (.reg false [om_ 74 9 [],oo_ 75 (.bin .neq (.t 74) (.d (.int .i64 0))) [0],om_ 76 75 [1],og_ 77 (.mv (.t 11)) 76 false [2],og_ 78 (.bin .neq (.t 77) (.d (.int .i64 0))) 76 false
 [3,2],oo_ 79 (.pick (.t 76) (.d (.bool true)) (.t 78)) [2,4],om_ 80 79 [5,2],og_ 81 (.mv (.t 13)) 80 false [6],og_ 82 (.bin .neq (.t 81) (.d (.int .i64 0))) 80 false [7,6],oo_ 83 (.pick (.t 80) (.d (.bool true)) (.t
 82)) [6,8],om_ 84 83 [9,6],og_ 85 (.mv (.t 15)) 84 false [10],og_ 86 (.bin .neq (.t 85) (.d (.int .i64 0))) 84 false [11,10],oo_ 87 (.pick (.t 84) (.d (.bool true)) (.t 86)) [10,12],om_ 88 87 [13,10],og_ 89 (.load true
 3 (.t 7)) 88 false [14],og_ 90 (.mv (.t 12)) 88 false [14],og_ 91 (.call 42 [(.t 89),(.t 90)]) 88 false [15,16,14,14],og_ 92 (.un .not (.t 91)) 88 false [17,14],oo_ 93 (.pick (.t 88) (.d (.bool true)) (.t 92)) [14,18]])
 (.cond (.t 93) (.seq (.reg false [oo_ 6 (.mv (.d (.bool false))) []]) .ret) .skip)) (.seq (.seq (.reg false [oo_ 94 (.fa 2 (.t 3)) [],oo_ 95 (.load false 1 (.t 94)) [0],oo_ 96 (.bin .shl (.d (.int .i64 1)) (.t 95))
 [1],oo_ 97 (.mv (.d (.int .i64 0))) []]) (.block 0 (.loop (.seq (.reg false [oo_ 98 (.bin .lss (.t 97) (.t 96)) []]) (.seq (.cond (.t 98) .skip (.exit 0)) (.seq (.block 1 (.seq (.reg false [om_ 99 97 [],om_ 16 99
 [0,0]]) (.seq (.reg false [om_ 100 12 [],om_ 101 16 [],oo_ 102 (.build [(.int .i64 0),(.int .i64 0),(.bool false)] [(0,1,(.t 101))]) [1],oo_ 103 (.call 44 [(.t 100),(.t 102)]) [0,2],om_ 104 12 [],om_ 105 16 [],oo_ 106
 (.build [(.int .i64 0),(.int .i64 0),(.bool false)] [(0,1,(.t 105)),(2,1,(.d (.bool true)))]) [5],oo_ 107 (.call 44 [(.t 104),(.t 106)]) [4,6,3],oo_ 108 (.call 23 [(.t 103),(.t 107)]) [3,7,7],oo_ 17 (.new 29
 [.nilsl,(.bool false),.nilsl]) [],on_ (.store 3 (.t 17) (.t 108)) [9,8,8,0,1,2,3,4,5,6,7,8,9]]) (.seq (.reg false [om_ 109 14 [],om_ 110 16 [],oo_ 111 (.build [(.int .i64 0),(.int .i64 0),(.bool false)] [(0,1,(.t
 110))]) [1],oo_ 112 (.call 44 [(.t 109),(.t 111)]) [0,2],om_ 113 14 [],om_ 114 16 [],oo_ 115 (.build [(.int .i64 0),(.int .i64 0),(.bool false)] [(0,1,(.t 114)),(2,1,(.d (.bool true)))]) [5],oo_ 116 (.call 44 [(.t
 113),(.t 115)]) [4,6,3],oo_ 117 (.call 23 [(.t 112),(.t 116)]) [3,7,7],oo_ 18 (.new 29 [.nilsl,(.bool false),.nilsl]) [],on_ (.store 3 (.t 18) (.t 117)) [9,8,8,0,1,2,3,4,5,6,7,8,9]]) (.seq (.reg false [oo_ 118 (.load
 true 3 (.t 17)) [],oo_ 119 (.load true 3 (.t 18)) [],oo_ 120 (.call 22 [(.t 118),(.t 119)]) [0,1],oo_ 121 (.bin .neq (.t 120) (.d (.int .i64 0))) [2]]) (.cond (.t 121) (.seq (.reg false [oo_ 6 (.mv (.d (.bool false)))
 []]) .ret) .skip)))))) (.reg false [oo_ 122 (.bin .add (.t 97) (.d (.int .i64 1))) [],om_ 97 122 [0]]))))))) (.seq (.reg false [oo_ 6 (.mv (.d (.bool true))) []]) .ret))))))))))))))
theorem o_6l : fnOf Tryz.prog o_6j = some (o_6k, [.t 6], 123, false) := by kernel_rfl

abbrev o_6m : FuncId := 15
def o_6n : C := (.seq (.reg false [oo_ 4 (.new 29 [.nilsl,(.bool false),.nilsl]) [],oo_ 5 (.mv (.d (.int .i64 0))) []]) (.seq (.seq (.reg false [om_ 9 0 [],om_ 10 1 [],oo_ 11 (.bsl 3 1 1 [(.int .i64 0)] [(0,1,(.t 10))]) [1],oo_ 12
 (.call 63 [(.t 9),(.t 11)]) [0,2],om_ 6 12 [3,3,0,1,2,3]]) (.seq (.reg false [om_ 13 6 [],oo_ 14 (.bin .neq (.t 13) (.d (.int .i64 0))) [0]]) (.cond (.t 14) (.seq (.reg false [oo_ 15 (.build [.nilsl,(.bool
 false),.nilsl] []) [],om_ 16 6 [],on_ (.store 3 (.t 4) (.t 15)) [0,0],om_ 5 16 [1,2,0,1,2]]) .ret) .skip))) (.seq (.reg false [om_ 18 0 [],om_ 19 0 [],oo_ 20 (.bin .add (.t 19) (.d (.int .i64 1))) [1],oo_ 21 (.call 36
 [(.t 18),(.t 20)]) [0,2],om_ 17 21 [3],oo_ 22 (.ext (.t 17) 0) [4],oo_ 23 (.ext (.t 17) 1) [4],oo_ 7 (.new 29 [.nilsl,(.bool false),.nilsl]) [],on_ (.store 3 (.t 7) (.t 22)) [7,5,3,0,1,2,3,4,5,7],om_ 8 23
 [6,8,0,1,2,3,4,5,6,7,8]]) (.seq (.reg false [oo_ 24 (.load true 3 (.t 7)) [],om_ 25 1 [],oo_ 26 (.call 64 [(.t 24),(.t 25)]) [0,1],oo_ 27 (.ext (.t 26) 0) [2],oo_ 28 (.ext (.t 26) 1) [2],on_ (.store 3 (.t 4) (.t 27))
 [3,2,0,1,2,3,4],om_ 5 28 [4,5,0,1,2,3,4,5]]) .ret))))
theorem o_6o : fnOf Tryz.prog o_6m = some (o_6n, [.cell 4 true 3, .t 5], 29, false) := by kernel_rfl

abbrev o_6p : FuncId := 18
def o_6q : C := (.seq (.reg false [oo_ 2 (.mv (.d (.bool false))) []]) (.seq (.reg false [om_ 3 0 [],oo_ 4 (.bin .geq (.t 3) (.d (.int .i64 1))) [0],om_ 5 4 [1],og_ 6 (.mv (.t 0)) 5 true [2],og_ 7 (.bin .leq (.t 6) (.d (.int .i64
 4096))) 5 true [3,2],oo_ 8 (.pick (.t 5) (.t 7) (.d (.bool false))) [2,4],om_ 2 8 [5,2,0,1,2,3,4,5]]) .ret))
theorem o_6r : fnOf Tryz.prog o_6p = some (o_6q, [.t 2], 9, false) := by kernel_rfl

abbrev o_6s : FuncId := 19
def o_6t : C := (.seq (.reg false [oo_ 1 (.box 29 (.t 0)) [],⟨some 2,.mv (.d (.str ⟨#[]⟩)),none,[]⟩]) (.seq (.seq (.reg false [oo_ 3 (.load true 3 (.t 1)) [],oo_ 4 (.call 65 [(.t 3)]) [0]]) (.cond (.t 4) (.seq (.reg false [oo_ 5 (.fa 0
 (.t 1)) [],oo_ 6 (.load true 2 (.t 5)) [0],oo_ 7 (.call 66 [(.t 6)]) [1],om_ 2 7 [2,2,0,1,2]]) .ret) .skip)) (.seq (.reg true [oo_ 8 (.fa 0 (.t 1)) [],oo_ 9 (.load true 2 (.t 8)) [0],oo_ 10 (.call 66 [(.t 9)]) [1],⟨some
 11,.bin .add (.t 10) (.d (.str ⟨#[47]⟩)),none,[2]⟩,oo_ 12 (.load true 3 (.t 1)) [],oo_ 13 (.call 67 [(.t 12)]) [4,2],oo_ 14 (.call 68 [(.t 13)]) [5,5],oo_ 15 (.bin .add (.t 11) (.t 14)) [3,6],om_ 2 15
 [7,6,0,1,2,3,4,5,6,7]]) .ret)))
theorem o_6u : fnOf Tryz.prog o_6s = some (o_6t, [.t 2], 16, false) := by kernel_rfl

abbrev o_6v : FuncId := 20
def o_6w : C := (.seq (.reg false [oo_ 2 (.box 29 (.t 0)) [],oo_ 3 (.box 29 (.t 1)) [],oo_ 4 (.new 29 [.nilsl,(.bool false),.nilsl]) [],oo_ 5 (.mv (.d (.int .i64 0))) []]) (.seq (.reg true [oo_ 6 (.fa 0 (.t 2)) [],oo_ 7 (.load true 2
 (.t 6)) [0],oo_ 8 (.load true 3 (.t 3)) [],oo_ 9 (.call 71 [(.t 8)]) [2],oo_ 10 (.call 70 [(.t 7),(.t 9)]) [1,3,3],oo_ 11 (.fa 0 (.t 3)) [],oo_ 12 (.load true 2 (.t 11)) [5],oo_ 13 (.load true 3 (.t 2)) [],oo_ 14 (.call
 71 [(.t 13)]) [7,4],oo_ 15 (.call 70 [(.t 12),(.t 14)]) [6,8,8],oo_ 16 (.call 69 [(.t 10),(.t 15)]) [4,9,9],oo_ 17 (.ext (.t 16) 0) [10],oo_ 18 (.ext (.t 16) 1) [10],on_ (.store 3 (.t 4) (.t 17))
 [11,10,0,1,2,3,4,5,6,7,8,9,10,11,12],om_ 5 18 [12,13,0,1,2,3,4,5,6,7,8,9,10,11,12,13]]) .ret))
theorem o_6x : fnOf Tryz.prog o_6v = some (o_6w, [.cell 4 true 3, .t 5], 19, false) := by kernel_rfl

abbrev o_6y : FuncId := 21
def o_6z : C := (.seq (.reg false [oo_ 2 (.new 29 [.nilsl,(.bool false),.nilsl]) []]) (.seq (.reg false [om_ 3 0 [],oo_ 4 (.call 72 [(.t 3)]) [0],oo_ 5 (.build [.nilsl,(.bool false),.nilsl] [(0,2,(.t 4))]) [1],on_ (.store 3 (.t 2) (.t
 5)) [2,1,0,1,2]]) .ret))
theorem o_70 : fnOf Tryz.prog o_6y = some (o_6z, [.cell 2 true 3], 6, false) := by kernel_rfl

abbrev o_71 : FuncId := 22
def o_72 : C := (.seq (.reg false [oo_ 2 (.box 29 (.t 0)) [],oo_ 3 (.box 29 (.t 1)) [],oo_ 4 (.mv (.d (.int .i64 0))) []]) (.seq (.reg true [oo_ 5 (.fa 0 (.t 2)) [],oo_ 6 (.load true 2 (.t 5)) [0],oo_ 7 (.load true 3 (.t 3)) [],oo_ 8
 (.call 71 [(.t 7)]) [2],oo_ 9 (.call 70 [(.t 6),(.t 8)]) [1,3,3],oo_ 10 (.fa 0 (.t 3)) [],oo_ 11 (.load true 2 (.t 10)) [5],oo_ 12 (.load true 3 (.t 2)) [],oo_ 13 (.call 71 [(.t 12)]) [7,4],oo_ 14 (.call 70 [(.t 11),(.t
 13)]) [6,8,8],oo_ 15 (.call 73 [(.t 9),(.t 14)]) [4,9,9],om_ 4 15 [10,10,0,1,2,3,4,5,6,7,8,9,10]]) .ret))
theorem o_73 : fnOf Tryz.prog o_71 = some (o_72, [.t 4], 16, false) := by kernel_rfl

abbrev o_74 : FuncId := 23
def o_75 : C := (.seq (.reg false [oo_ 2 (.box 29 (.t 0)) [],oo_ 3 (.box 29 (.t 1)) [],oo_ 4 (.new 29 [.nilsl,(.bool false),.nilsl]) []]) (.seq (.reg true [oo_ 5 (.fa 0 (.t 2)) [],oo_ 6 (.load true 2 (.t 5)) [0],oo_ 7 (.load true 3 (.t
 3)) [],oo_ 8 (.call 71 [(.t 7)]) [2],oo_ 9 (.call 70 [(.t 6),(.t 8)]) [1,3,3],oo_ 10 (.fa 0 (.t 3)) [],oo_ 11 (.load true 2 (.t 10)) [5],oo_ 12 (.load true 3 (.t 2)) [],oo_ 13 (.call 71 [(.t 12)]) [7,4],oo_ 14 (.call 70
 [(.t 11),(.t 13)]) [6,8,8],oo_ 15 (.call 75 [(.t 9),(.t 14)]) [4,9,9],oo_ 16 (.load true 3 (.t 2)) [],oo_ 17 (.call 67 [(.t 16)]) [11,10],oo_ 18 (.load true 3 (.t 3)) [],oo_ 19 (.call 67 [(.t 18)]) [13,12],oo_ 20 (.call
 76 [(.t 17),(.t 19)]) [12,14,14],oo_ 21 (.call 74 [(.t 15),(.t 20)]) [10,15,15],on_ (.store 3 (.t 4) (.t 21)) [16,16,0,1,2,3,4,5,6,7,8,9,10,11,12,13,14,15,16]]) .ret))
theorem o_76 : fnOf Tryz.prog o_74 = some (o_75, [.cell 4 true 3], 22, false) := by kernel_rfl

abbrev o_77 : FuncId := 36
def o_78 : C := (.seq (.reg false [oo_ 4 (.new 29 [.nilsl,(.bool false),.nilsl]) [],oo_ 5 (.mv (.d (.int .i64 0))) []]) (.seq (.reg false [om_ 6 0 [],oo_ 7 (.call 72 [(.t 6)]) [0],om_ 8 1 [],oo_ 9 (.call 72 [(.t 8)]) [2,1],oo_ 10
 (.call 69 [(.t 7),(.t 9)]) [1,3,3],oo_ 11 (.ext (.t 10) 0) [4],oo_ 12 (.ext (.t 10) 1) [4],on_ (.store 3 (.t 4) (.t 11)) [5,4,0,1,2,3,4,5,6],om_ 5 12 [6,7,0,1,2,3,4,5,6,7]]) .ret))
theorem o_79 : fnOf Tryz.prog o_77 = some (o_78, [.cell 4 true 3, .t 5], 13, false) := by kernel_rfl

abbrev o_7a : FuncId := 37
def o_7b : C := (.seq (.reg false [oo_ 0 (.mv (.d (.bool false))) []]) (.seq (.reg false [oo_ 4 (.build [(.int .i64 0),(.int .i64 0),(.int .i64 0)] [(0,1,(.d (.int .i64 1))),(1,1,(.d (.int .i64 1))),(2,1,(.d (.int .i64 2)))]) [],oo_ 5
 (.build [(.int .i64 0),(.int .i64 0),(.bool false)] []) [],oo_ 6 (.call 40 [(.t 4),(.t 5),(.d (.int .i64 2))]) [0,1],om_ 3 6 [2],oo_ 7 (.ext (.t 3) 0) [3],oo_ 8 (.ext (.t 3) 1) [3],om_ 1 7 [4,2,0,1,2,3,4],om_ 2 8
 [5,6,0,1,2,3,4,5,6]]) (.seq (.reg false [om_ 9 2 [],oo_ 10 (.bin .eql (.t 9) (.d (.int .i64 0))) [0],om_ 11 10 [1],og_ 12 (.mv (.t 1)) 11 true [2],og_ 13 (.len (.t 12)) 11 true [3,2],og_ 14 (.bin .eql (.t 13) (.d (.int
 .i64 2))) 11 true [4,2],oo_ 15 (.pick (.t 11) (.t 14) (.d (.bool false))) [2,5],om_ 16 15 [6,2],og_ 17 (.mv (.t 1)) 16 true [7],og_ 18 (.ix 6 (.t 17) (.d (.int .i64 0))) 16 true [8,7],og_ 19 (.fa 0 (.t 18)) 16 true
 [9,7],og_ 20 (.fa 0 (.t 19)) 16 true [10,7],og_ 21 (.load false 1 (.t 20)) 16 true [11,7],og_ 22 (.bin .eql (.t 21) (.d (.int .i64 1))) 16 true [12,7],oo_ 23 (.pick (.t 16) (.t 22) (.d (.bool false))) [7,13],om_ 24 23
 [14,7],og_ 25 (.mv (.t 1)) 24 true [15],og_ 26 (.ix 6 (.t 25) (.d (.int .i64 1))) 24 true [16,15],og_ 27 (.fa 0 (.t 26)) 24 true [17,15],og_ 28 (.fa 0 (.t 27)) 24 true [18,15],og_ 29 (.load false 1 (.t 28)) 24 true
 [19,15],og_ 30 (.bin .eql (.t 29) (.d (.int .i64 2))) 24 true [20,15],oo_ 31 (.pick (.t 24) (.t 30) (.d (.bool false))) [15,21],om_ 32 31 [22,15],og_ 33 (.mv (.t 1)) 32 true [23],og_ 34 (.ix 6 (.t 33) (.d (.int .i64
 0))) 32 true [24,23],og_ 35 (.fa 3 (.t 34)) 32 true [25,23],og_ 36 (.load true 3 (.t 35)) 32 true [26,23],og_ 37 (.call 19 [(.t 36)]) 32 true [27,23,23],⟨some 38,.bin .eql (.t 37) (.d (.str ⟨#[49,47,50]⟩)),some
 (32,true),[28,23]⟩,oo_ 39 (.pick (.t 32) (.t 38) (.d (.bool false))) [23,29],om_ 40 39 [30,28],og_ 41 (.mv (.t 1)) 40 true [31],og_ 42 (.ix 6 (.t 41) (.d (.int .i64 1))) 40 true [32,31],og_ 43 (.fa 3 (.t 42)) 40 true
 [33,31],og_ 44 (.load true 3 (.t 43)) 40 true [34,31],og_ 45 (.call 19 [(.t 44)]) 40 true [35,31,31],⟨some 46,.bin .eql (.t 45) (.d (.str ⟨#[49,47,50]⟩)),some (40,true),[36,31]⟩,oo_ 47 (.pick (.t 40) (.t 46) (.d (.bool
 false))) [31,37],om_ 0 47 [38,36,0,1,2,3,4,5,6,7,8,9,10,11,12,13,14,15,16,17,18,19,20,21,22,23,24,25,26,27,28,29,30,31,32,33,34,35,36,37,38]]) .ret)))
theorem o_7c : fnOf Tryz.prog o_7a = some (o_7b, [.t 0], 48, false) := by kernel_rfl

abbrev o_7d : FuncId := 38
def o_7e : C := (.seq (.reg false [oo_ 2 (.box 68 (.t 0)) [],oo_ 3 (.box 70 (.t 1)) [],oo_ 4 (.new 68 [(.int .i64 0),(.int .i64 0),(.int .i64 0)]) [],oo_ 5 (.new 70 [(.int .i64 0),(.int .i64 0),(.bool false)]) []]) (.seq (.reg false
 [oo_ 6 (.fa 0 (.t 2)) [],oo_ 7 (.load false 1 (.t 6)) [0],oo_ 8 (.bin .rem (.t 7) (.d (.int .i64 4))) [1],oo_ 9 (.bin .add (.t 8) (.d (.int .i64 4))) [2],oo_ 10 (.bin .rem (.t 9) (.d (.int .i64 4))) [3],oo_ 11 (.bin
 .add (.d (.int .i64 1)) (.t 10)) [4],oo_ 12 (.fa 0 (.t 2)) [0,1,2,3,4,5],on_ (.store 1 (.t 12) (.t 11)) [6,5,0,1,2,3,4,5]]) (.seq (.seq (.reg false [oo_ 13 (.fa 0 (.t 2)) [],oo_ 14 (.load false 1 (.t 13)) [0]]) (.block
 0 (.seq (.reg false [oo_ 25 (.bin .eql (.t 14) (.d (.int .i64 1))) [],om_ 24 25 [0]]) (.cond (.t 24) (.reg false [oo_ 26 (.fa 1 (.t 2)) [],oo_ 27 (.load false 1 (.t 26)) [0],oo_ 28 (.bin .and (.t 27) (.d (.int .i64 3)))
 [1],oo_ 29 (.bin .add (.d (.int .i64 1)) (.t 28)) [2],oo_ 30 (.fa 2 (.t 2)) [],oo_ 31 (.load false 1 (.t 30)) [4],oo_ 32 (.bin .and (.t 31) (.d (.int .i64 255))) [5],oo_ 33 (.bin .rem (.t 32) (.d (.int .i64 4))) [6],oo_
 34 (.bin .add (.d (.int .i64 1)) (.t 33)) [7],oo_ 35 (.fa 1 (.t 2)) [0,1,2,3,4,5],on_ (.store 1 (.t 35) (.t 29)) [9,3,0,1,2,3,4,5],oo_ 36 (.fa 2 (.t 2)) [0,1,2,3,4,5,6,7,8,9,10],on_ (.store 1 (.t 36) (.t 34))
 [11,8,10,0,1,2,3,4,5,6,7,8,9,10]]) (.seq (.reg false [oo_ 38 (.bin .eql (.t 14) (.d (.int .i64 2))) [],om_ 37 38 [0]]) (.cond (.t 37) (.reg false [oo_ 39 (.fa 1 (.t 2)) [],oo_ 40 (.load false 1 (.t 39)) [0],oo_ 41 (.bin
 .and (.t 40) (.d (.int .i64 1))) [1],oo_ 42 (.fa 2 (.t 2)) [],oo_ 43 (.load false 1 (.t 42)) [3],oo_ 44 (.bin .and (.t 43) (.d (.int .i64 255))) [4],oo_ 45 (.bin .rem (.t 44) (.d (.int .i64 4))) [5],oo_ 46 (.bin .add
 (.d (.int .i64 1)) (.t 45)) [6],oo_ 47 (.fa 1 (.t 2)) [0,1,2,3,4],on_ (.store 1 (.t 47) (.t 41)) [8,2,0,1,2,3,4],oo_ 48 (.fa 2 (.t 2)) [0,1,2,3,4,5,6,7,8,9],on_ (.store 1 (.t 48) (.t 46)) [10,7,9,0,1,2,3,4,5,6,7,8,9]])
 (.seq (.reg false [oo_ 50 (.bin .eql (.t 14) (.d (.int .i64 3))) [],om_ 49 50 [0]]) (.cond (.t 49) (.reg false [oo_ 51 (.fa 1 (.t 2)) [],oo_ 52 (.load false 1 (.t 51)) [0],oo_ 53 (.bin .and (.t 52) (.d (.int .i64 1)))
 [1],oo_ 54 (.bin .add (.d (.int .i64 1)) (.t 53)) [2],oo_ 55 (.fa 2 (.t 2)) [],oo_ 56 (.load false 1 (.t 55)) [4],oo_ 57 (.bin .and (.t 56) (.d (.int .i64 255))) [5],oo_ 58 (.bin .rem (.t 57) (.d (.int .i64 4))) [6],oo_
 59 (.bin .add (.d (.int .i64 1)) (.t 58)) [7],oo_ 60 (.fa 1 (.t 2)) [0,1,2,3,4,5],on_ (.store 1 (.t 60) (.t 54)) [9,3,0,1,2,3,4,5],oo_ 61 (.fa 2 (.t 2)) [0,1,2,3,4,5,6,7,8,9,10],on_ (.store 1 (.t 61) (.t 59))
 [11,8,10,0,1,2,3,4,5,6,7,8,9,10]]) (.reg false [oo_ 15 (.fa 1 (.t 2)) [],oo_ 16 (.load false 1 (.t 15)) [0],oo_ 17 (.bin .and (.t 16) (.d (.int .i64 7))) [1],oo_ 18 (.bin .add (.d (.int .i64 1)) (.t 17)) [2],oo_ 19 (.fa
 2 (.t 2)) [],oo_ 20 (.load false 1 (.t 19)) [4],oo_ 21 (.bin .and (.t 20) (.d (.int .i64 3))) [5],oo_ 22 (.fa 1 (.t 2)) [0,1,2,3,4,5],on_ (.store 1 (.t 22) (.t 18)) [7,3,0,1,2,3,4,5],oo_ 23 (.fa 2 (.t 2))
 [0,1,2,3,4,5,6,7,8],on_ (.store 1 (.t 23) (.t 21)) [9,6,8,0,1,2,3,4,5,6,7,8]]))))))))) (.seq (.reg true [oo_ 62 (.load true 3 (.t 2)) [],oo_ 63 (.load true 3 (.t 2)) [],oo_ 64 (.load true 3 (.t 3)) [],oo_ 65 (.call 99
 [(.t 63),(.t 64)]) [1,2],on_ (.store 3 (.t 4) (.t 62)) [0,3,0],on_ (.store 3 (.t 5) (.t 65)) [3,4,0,1,2,3,4]]) .ret))))
theorem o_7f : fnOf Tryz.prog o_7d = some (o_7e, [.cell 4 true 3, .cell 5 true 3], 66, false) := by kernel_rfl

abbrev o_7g : FuncId := 39
def o_7h : C := (.seq (.reg false [oo_ 1 (.box 68 (.t 0)) [],oo_ 2 (.new 73 [(.int .i64 0),(.int .i64 0),(.int .i64 0)]) []]) (.seq (.reg false [oo_ 3 (.fa 0 (.t 1)) [],oo_ 4 (.load false 1 (.t 3)) [0],oo_ 5 (.fa 1 (.t 1)) [],oo_ 6
 (.load false 1 (.t 5)) [2],oo_ 7 (.fa 2 (.t 1)) [],oo_ 8 (.load false 1 (.t 7)) [4],oo_ 9 (.build [(.int .i64 0),(.int .i64 0),(.int .i64 0)] [(0,1,(.t 4)),(1,1,(.t 6)),(2,1,(.t 8))]) [1,3,5],on_ (.store 3 (.t 2) (.t
 9)) [6,0,1,2,3,4,5,6]]) .ret))
theorem o_7i : fnOf Tryz.prog o_7g = some (o_7h, [.cell 2 true 3], 10, false) := by kernel_rfl

abbrev o_7j : FuncId := 40
def o_7k : C := (.seq (.reg false [oo_ 3 (.box 73 (.t 0)) [],oo_ 4 (.box 78 (.t 1)) [],oo_ 6 (.mv (.d .nilsl)) [],oo_ 7 (.mv (.d (.int .i64 0))) [2]]) (.seq (.seq (.reg false [oo_ 10 (.load true 3 (.t 3)) [],oo_ 11 (.load true 3 (.t
 4)) [],oo_ 12 (.bsl 78 3 1 [(.int .i64 0),(.int .i64 0),(.bool false)] [(0,3,(.t 11))]) [1],oo_ 13 (.call 100 [(.t 10),(.t 12)]) [0,2],om_ 8 13 [3,3,0,1,2,3]]) (.block 0 (.seq (.reg false [om_ 15 8 [],oo_ 16 (.bin .neq
 (.t 15) (.d (.int .i64 0))) [0],om_ 14 16 [1]]) (.cond (.t 14) (.seq (.reg false [om_ 17 8 [],oo_ 6 (.mv (.d .nilsl)) [],om_ 7 17 [0,1,0,1]]) .ret) (.seq (.reg false [om_ 19 2 [],oo_ 20 (.bin .lss (.t 19) (.d (.int .i64
 0))) [0],om_ 21 20 [1],og_ 22 (.mv (.t 2)) 21 false [2],og_ 23 (.bin .gtr (.t 22) (.d (.int .i64 64))) 21 false [3,2],oo_ 24 (.pick (.t 21) (.d (.bool true)) (.t 23)) [2,4],om_ 18 24 [5,2]]) (.cond (.t 18) (.seq (.reg
 false [oo_ 6 (.mv (.d .nilsl)) [],oo_ 7 (.mv (.d (.int .i64 2))) [0,0]]) .ret) (.seq (.reg false [om_ 26 2 [],oo_ 27 (.bin .add (.t 26) (.d (.int .i64 1))) [0],oo_ 28 (.load true 3 (.t 3)) [],oo_ 29 (.call 101 [(.t
 28)]) [2],oo_ 30 (.bin .mul (.t 27) (.t 29)) [1,3],oo_ 31 (.bin .gtr (.t 30) (.d (.int .i64 512))) [4],om_ 25 31 [5,3]]) (.cond (.t 25) (.seq (.reg false [oo_ 6 (.mv (.d .nilsl)) [],oo_ 7 (.mv (.d (.int .i64 12)))
 [0,0]]) .ret) .skip)))))))) (.seq (.reg false [oo_ 32 (.load true 3 (.t 4)) [],oo_ 33 (.call 102 [(.t 32)]) [0],om_ 9 33 [1,1,0,1]]) (.seq (.seq (.reg false [om_ 34 2 [],oo_ 35 (.mv (.d (.int .i64 0))) []]) (.block 1
 (.loop (.seq (.reg false [oo_ 36 (.bin .lss (.t 35) (.t 34)) []]) (.seq (.cond (.t 36) .skip (.exit 1)) (.seq (.block 2 (.reg false [om_ 37 9 [],oo_ 38 (.mkf (.func 104) [(.t 3)]) [],oo_ 39 (.call 103 [(.t 37),(.t 38)])
 [0,1],om_ 9 39 [2,2,0,1,2]])) (.reg false [oo_ 40 (.bin .add (.t 35) (.d (.int .i64 1))) [],om_ 35 40 [0]]))))))) (.seq (.reg false [om_ 41 9 [],oo_ 42 (.call 106 [(.t 41)]) [0],om_ 6 42 [1,1,0,1],oo_ 7 (.mv (.d (.int
 .i64 0))) [2,0,1,2]]) .ret)))))
theorem o_7l : fnOf Tryz.prog o_7j = some (o_7k, [.t 6, .t 7], 43, false) := by kernel_rfl

abbrev o_7m : FuncId := 42
def o_7n : C := (.seq (.reg false [oo_ 2 (.box 73 (.t 0)) [],oo_ 4 (.mv (.d (.bool false))) []]) (.seq (.reg false [oo_ 10 (.call 21 [(.d (.int .i64 0))]) [],oo_ 5 (.new 29 [.nilsl,(.bool false),.nilsl]) [],on_ (.store 3 (.t 5) (.t
 10)) [1,0,0,0,1]]) (.seq (.seq (.reg false [om_ 11 1 [],oo_ 12 (.len (.t 11)) [0],oo_ 13 (.mv (.d (.int .i64 0))) []]) (.block 0 (.loop (.seq (.reg false [oo_ 14 (.bin .lss (.t 13) (.t 12)) []]) (.seq (.cond (.t 14)
 .skip (.exit 0)) (.seq (.block 1 (.seq (.reg false [om_ 15 13 [],oo_ 16 (.ix 6 (.t 11) (.t 13)) [],oo_ 17 (.load true 6 (.t 16)) [1],oo_ 7 (.new 91 [(.int .i64 0),(.int .i64 0),(.bool false),.nilsl,(.bool
 false),.nilsl]) [],om_ 6 15 [0,0,1,2,3],on_ (.store 6 (.t 7) (.t 17)) [3,2,4,0,1,2,3,4]]) (.seq (.seq (.reg true [oo_ 18 (.load true 3 (.t 2)) [],oo_ 19 (.fa 0 (.t 7)) [],oo_ 20 (.load true 3 (.t 19)) [1],oo_ 21 (.call
 107 [(.t 18),(.t 20)]) [0,2],oo_ 22 (.un .not (.t 21)) [3],om_ 23 22 [4,3],og_ 24 (.fa 3 (.t 7)) 23 false [5],og_ 25 (.load true 3 (.t 24)) 23 false [6,5],og_ 26 (.call 21 [(.d (.int .i64 0))]) 23 false [5,5],og_ 27
 (.call 22 [(.t 25),(.t 26)]) 23 false [7,8,8,5],og_ 28 (.bin .leq (.t 27) (.d (.int .i64 0))) 23 false [9,5],oo_ 29 (.pick (.t 23) (.d (.bool true)) (.t 28)) [5,10]]) (.cond (.t 29) (.seq (.reg false [oo_ 4 (.mv (.d
 (.bool false))) []]) .ret) .skip)) (.seq (.reg false [oo_ 30 (.load true 3 (.t 5)) [],oo_ 31 (.fa 3 (.t 7)) [],oo_ 32 (.load true 3 (.t 31)) [1],oo_ 33 (.call 23 [(.t 30),(.t 32)]) [0,2],on_ (.store 3 (.t 5) (.t 33))
 [3,3,0,1,2,3]]) (.seq (.seq (.reg false [om_ 34 6 [],oo_ 35 (.bin .eql (.t 34) (.d (.int .i64 0))) [0]]) (.cond (.t 35) (.exit 1) .skip)) (.seq (.reg true [om_ 36 1 [],om_ 37 6 [],oo_ 38 (.bin .sub (.t 37) (.d (.int
 .i64 1))) [1],oo_ 39 (.ix 6 (.t 36) (.t 38)) [0,2],oo_ 40 (.fa 0 (.t 39)) [3],oo_ 41 (.load true 3 (.t 40)) [4],oo_ 42 (.fa 0 (.t 7)) [],oo_ 43 (.load true 3 (.t 42)) [6],oo_ 8 (.new 78 [(.int .i64 0),(.int .i64
 0),(.bool false)]) [],oo_ 9 (.new 78 [(.int .i64 0),(.int .i64 0),(.bool false)]) [],on_ (.store 3 (.t 8) (.t 41)) [8,5,0,1,2,3,4,5,8,9],on_ (.store 3 (.t 9) (.t 43)) [9,7,10,0,1,2,3,4,5,6,7,8,9,10]]) (.seq (.reg false
 [oo_ 44 (.fa 0 (.t 8)) [],oo_ 45 (.load false 1 (.t 44)) [0],oo_ 46 (.fa 0 (.t 9)) [],oo_ 47 (.load false 1 (.t 46)) [2],oo_ 48 (.bin .gtr (.t 45) (.t 47)) [1,3],om_ 49 48 [4],og_ 50 (.fa 0 (.t 8)) 49 false [5],og_ 51
 (.load false 1 (.t 50)) 49 false [6,5],og_ 52 (.fa 0 (.t 9)) 49 false [5],og_ 53 (.load false 1 (.t 52)) 49 false [8,5],og_ 54 (.bin .eql (.t 51) (.t 53)) 49 false [7,9,5],og_ 55 (.mv (.t 54)) 49 false [10,5,5],og_ 56
 (.fa 1 (.t 8)) 55 true [11],og_ 57 (.load false 1 (.t 56)) 55 true [12,11],og_ 58 (.fa 1 (.t 9)) 55 true [11],og_ 59 (.load false 1 (.t 58)) 55 true [14,11],og_ 60 (.bin .gtr (.t 57) (.t 59)) 55 true [13,15,11],og_ 61
 (.mv (.t 60)) 55 true [16,11,11],og_ 62 (.fa 1 (.t 8)) 61 false [17],og_ 63 (.load false 1 (.t 62)) 61 false [18,17],og_ 64 (.fa 1 (.t 9)) 61 false [17],og_ 65 (.load false 1 (.t 64)) 61 false [20,17],og_ 66 (.bin .eql
 (.t 63) (.t 65)) 61 false [19,21,17],og_ 67 (.mv (.t 66)) 61 false [22,17,17],og_ 68 (.fa 2 (.t 8)) 67 true [23],og_ 69 (.load false 1 (.t 68)) 67 true [24,23],og_ 70 (.mv (.t 69)) 67 true [25,23,23],og_ 71 (.fa 2 (.t
 9)) 70 false [26],og_ 72 (.load false 1 (.t 71)) 70 false [27,26],og_ 73 (.un .not (.t 72)) 70 false [28,26],og_ 74 (.pick (.t 70) (.d (.bool true)) (.t 73)) 67 true [26,29,23],og_ 75 (.pick (.t 67) (.t 74) (.d (.bool
 false))) 61 false [23,30,17],og_ 76 (.pick (.t 61) (.d (.bool true)) (.t 75)) 55 true [17,31,11],og_ 77 (.pick (.t 55) (.t 76) (.d (.bool false))) 49 false [11,32,5],oo_ 78 (.pick (.t 49) (.d (.bool true)) (.t 77))
 [5,33]]) (.cond (.t 78) (.seq (.reg false [oo_ 4 (.mv (.d (.bool false))) []]) .ret) .skip)))))))) (.reg false [oo_ 79 (.bin .add (.t 13) (.d (.int .i64 1))) [],om_ 13 79 [0]]))))))) (.seq (.reg true [oo_ 80 (.load true
 3 (.t 5)) [],oo_ 81 (.call 21 [(.d (.int .i64 1))]) [],oo_ 82 (.call 22 [(.t 80),(.t 81)]) [0,1,1],oo_ 83 (.bin .eql (.t 82) (.d (.int .i64 0))) [2],om_ 4 83 [3,2,0,1,2,3]]) .ret))))
theorem o_7o : fnOf Tryz.prog o_7m = some (o_7n, [.t 4], 84, false) := by kernel_rfl

abbrev o_7p : FuncId := 44
def o_7q : C := (.seq (.reg false [oo_ 3 (.box 78 (.t 1)) [],oo_ 4 (.new 29 [.nilsl,(.bool false),.nilsl]) []]) (.seq (.seq (.reg false [om_ 7 0 [],oo_ 8 (.len (.t 7)) [0],oo_ 9 (.mv (.d (.int .i64 0))) []]) (.block 0 (.loop (.seq
 (.reg false [oo_ 10 (.bin .lss (.t 9) (.t 8)) []]) (.seq (.cond (.t 10) .skip (.exit 0)) (.seq (.block 1 (.seq (.reg false [oo_ 11 (.ix 6 (.t 7) (.t 9)) [],oo_ 12 (.load true 6 (.t 11)) [0],oo_ 6 (.new 91 [(.int .i64
 0),(.int .i64 0),(.bool false),.nilsl,(.bool false),.nilsl]) [],on_ (.store 6 (.t 6) (.t 12)) [2,1,0,1,2]]) (.seq (.reg false [oo_ 13 (.fa 0 (.t 6)) [],oo_ 14 (.load true 3 (.t 13)) [0],oo_ 15 (.load true 3 (.t 3))
 [],oo_ 16 (.aeq false [0,0,1] (.t 14) (.t 15)) [1,2]]) (.cond (.t 16) (.seq (.reg false [oo_ 17 (.fa 3 (.t 6)) [],oo_ 18 (.load true 3 (.t 17)) [0],on_ (.store 3 (.t 4) (.t 18)) [1,0,1]]) .ret) .skip)))) (.reg false
 [oo_ 19 (.bin .add (.t 9) (.d (.int .i64 1))) [],om_ 9 19 [0]]))))))) (.seq (.reg false [oo_ 20 (.call 21 [(.d (.int .i64 0))]) [],on_ (.store 3 (.t 4) (.t 20)) [0,0,0]]) .ret)))
theorem o_7r : fnOf Tryz.prog o_7p = some (o_7q, [.cell 4 true 3], 21, false) := by kernel_rfl

abbrev o_7s : FuncId := 49
def o_7t : C := (.seq (.reg false [oo_ 3 (.box 73 (.t 0)) [],oo_ 6 (.mv (.d .nilsl)) [],oo_ 7 (.mv (.d (.int .i64 0))) [1]]) (.seq (.reg false [oo_ 8 (.mv (.d .nilsl)) []]) (.seq (.reg false [oo_ 9 (.mv (.d (.bool false))) []]) (.seq
 (.seq (.reg false [om_ 20 1 [],om_ 21 2 [],oo_ 22 (.bsl 75 1 2 [.nilsl,.nilsl] [(0,1,(.t 20)),(1,1,(.t 21))]) [0,1],oo_ 23 (.call 113 [(.t 22)]) [2],oo_ 24 (.len (.t 23)) [3],oo_ 25 (.mv (.d (.int .i64 0))) []]) (.block
 0 (.loop (.seq (.reg false [oo_ 26 (.bin .lss (.t 25) (.t 24)) []]) (.seq (.cond (.t 26) .skip (.exit 0)) (.seq (.block 1 (.seq (.reg false [oo_ 27 (.ix 6 (.t 23) (.t 25)) [],oo_ 28 (.load true 6 (.t 27)) [0],oo_ 11
 (.new 91 [(.int .i64 0),(.int .i64 0),(.bool false),.nilsl,(.bool false),.nilsl]) [],on_ (.store 6 (.t 11) (.t 28)) [2,1,0,1,2]]) (.seq (.reg false [om_ 29 8 [],oo_ 30 (.fa 0 (.t 11)) [],oo_ 31 (.load true 3 (.t 30))
 [1],oo_ 32 (.bsl 78 3 1 [(.int .i64 0),(.int .i64 0),(.bool false)] [(0,3,(.t 31))]) [2],oo_ 33 (.app 78 3 24 (.t 29) (.t 32)) [0,3],om_ 8 33 [4,4,0,1,2,3,4]]) (.reg true [om_ 34 9 [],om_ 35 34 [0],og_ 36 (.fa 3 (.t
 11)) 35 false [1],og_ 37 (.load true 3 (.t 36)) 35 false [2,1],og_ 38 (.call 21 [(.d (.int .i64 0))]) 35 false [1,1],og_ 39 (.call 22 [(.t 37),(.t 38)]) 35 false [3,4,4,1],og_ 40 (.bin .lss (.t 39) (.d (.int .i64 0)))
 35 false [5,1],oo_ 41 (.pick (.t 35) (.d (.bool true)) (.t 40)) [1,6],om_ 9 41 [7,5,0,1,2,3,4,5,6,7]])))) (.reg false [oo_ 42 (.bin .add (.t 25) (.d (.int .i64 1))) [],om_ 25 42 [0]]))))))) (.seq (.reg false [oo_ 43
 (.load true 3 (.t 3)) [],om_ 44 8 [],oo_ 45 (.call 108 [(.t 43),(.t 44)]) [0,1],om_ 12 45 [2,2,0,1,2]]) (.seq (.seq (.reg false [om_ 46 9 [],om_ 47 46 [0],og_ 48 (.mv (.t 12)) 47 true [1],og_ 49 (.bin .eql (.t 48) (.d
 (.int .i64 0))) 47 true [2,1],og_ 50 (.mv (.t 49)) 47 true [3,1,1],og_ 51 (.mv (.t 12)) 50 false [4],og_ 52 (.bin .eql (.t 51) (.d (.int .i64 12))) 50 false [5,4],og_ 53 (.pick (.t 50) (.d (.bool true)) (.t 52)) 47 true
 [4,6,1],oo_ 54 (.pick (.t 47) (.t 53) (.d (.bool false))) [1,7]]) (.cond (.t 54) (.reg false [oo_ 12 (.mv (.d (.int .i64 2))) []]) .skip)) (.seq (.seq (.reg false [om_ 55 12 [],oo_ 56 (.bin .neq (.t 55) (.d (.int .i64
 0))) [0]]) (.cond (.t 56) (.seq (.reg false [om_ 57 12 [],oo_ 6 (.mv (.d .nilsl)) [],om_ 7 57 [0,1,0,1]]) .ret) .skip)) (.seq (.reg false [oo_ 58 (.mkm 1000391) [],om_ 13 58 [0,0]]) (.seq (.seq (.reg false [om_ 59 1
 [],oo_ 60 (.len (.t 59)) [0],oo_ 61 (.mv (.d (.int .i64 0))) []]) (.block 2 (.loop (.seq (.reg false [oo_ 62 (.bin .lss (.t 61) (.t 60)) []]) (.seq (.cond (.t 62) .skip (.exit 2)) (.seq (.block 3 (.seq (.reg false [oo_
 63 (.ix 6 (.t 59) (.t 61)) [],oo_ 64 (.load true 6 (.t 63)) [0],oo_ 15 (.new 91 [(.int .i64 0),(.int .i64 0),(.bool false),.nilsl,(.bool false),.nilsl]) [],on_ (.store 6 (.t 15) (.t 64)) [2,1,0,1,2]]) (.seq (.reg false
 [om_ 65 2 [],oo_ 66 (.len (.t 65)) [0],oo_ 67 (.mv (.d (.int .i64 0))) []]) (.block 4 (.loop (.seq (.reg false [oo_ 68 (.bin .lss (.t 67) (.t 66)) []]) (.seq (.cond (.t 68) .skip (.exit 4)) (.seq (.block 5 (.seq (.reg
 false [oo_ 69 (.ix 6 (.t 65) (.t 67)) [],oo_ 70 (.load true 6 (.t 69)) [0],oo_ 17 (.new 91 [(.int .i64 0),(.int .i64 0),(.bool false),.nilsl,(.bool false),.nilsl]) [],on_ (.store 6 (.t 17) (.t 70)) [2,1,0,1,2]]) (.seq
 (.reg false [oo_ 71 (.load true 3 (.t 3)) [],oo_ 72 (.fa 0 (.t 15)) [],oo_ 73 (.load true 3 (.t 72)) [1],oo_ 74 (.fa 0 (.t 17)) [],oo_ 75 (.load true 3 (.t 74)) [3],oo_ 76 (.call 109 [(.t 71),(.t 73),(.t 75)])
 [0,2,4],oo_ 77 (.call 106 [(.t 76)]) [5,5],oo_ 78 (.len (.t 77)) [6],oo_ 79 (.mv (.d (.int .i64 0))) []]) (.block 6 (.loop (.seq (.reg false [oo_ 80 (.bin .lss (.t 79) (.t 78)) []]) (.seq (.cond (.t 80) .skip (.exit 6))
 (.seq (.block 7 (.seq (.reg false [oo_ 81 (.ix 6 (.t 77) (.t 79)) [],oo_ 82 (.load true 6 (.t 81)) [0],oo_ 19 (.new 91 [(.int .i64 0),(.int .i64 0),(.bool false),.nilsl,(.bool false),.nilsl]) [],on_ (.store 6 (.t 19)
 (.t 82)) [2,1,0,1,2]]) (.reg true [om_ 83 13 [],oo_ 84 (.fa 0 (.t 19)) [],oo_ 85 (.load true 3 (.t 84)) [1],oo_ 86 (.fa 3 (.t 19)) [],oo_ 87 (.load true 3 (.t 86)) [3],oo_ 88 (.fa 3 (.t 15)) [],oo_ 89 (.load true 3 (.t
 88)) [5],oo_ 90 (.fa 3 (.t 17)) [],oo_ 91 (.load true 3 (.t 90)) [7],oo_ 92 (.call 54 [(.t 89),(.t 91)]) [6,8],oo_ 93 (.call 54 [(.t 87),(.t 92)]) [4,9,9],oo_ 94 (.call 114 [(.t 83),(.t 85),(.t 93)]) [0,2,10,10]])))
 (.reg false [oo_ 95 (.bin .add (.t 79) (.d (.int .i64 1))) [],om_ 79 95 [0]]))))))))) (.reg false [oo_ 96 (.bin .add (.t 67) (.d (.int .i64 1))) [],om_ 67 96 [0]]))))))))) (.reg false [oo_ 97 (.bin .add (.t 61) (.d
 (.int .i64 1))) [],om_ 61 97 [0]]))))))) (.seq (.reg false [om_ 98 13 [],oo_ 99 (.call 106 [(.t 98)]) [0],om_ 6 99 [1,1,0,1],oo_ 7 (.mv (.d (.int .i64 0))) [2,0,1,2]]) .ret))))))))))
theorem o_7u : fnOf Tryz.prog o_7s = some (o_7t, [.t 6, .t 7], 100, false) := by kernel_rfl

abbrev o_7v : FuncId := 54
def o_7w : C := (.seq (.reg false [oo_ 2 (.box 29 (.t 0)) [],oo_ 3 (.box 29 (.t 1)) [],oo_ 4 (.new 29 [.nilsl,(.bool false),.nilsl]) []]) (.seq (.reg true [oo_ 5 (.fa 0 (.t 2)) [],oo_ 6 (.load true 2 (.t 5)) [0],oo_ 7 (.fa 0 (.t 3))
 [],oo_ 8 (.load true 2 (.t 7)) [2],oo_ 9 (.call 70 [(.t 6),(.t 8)]) [1,3],oo_ 10 (.load true 3 (.t 2)) [],oo_ 11 (.call 67 [(.t 10)]) [5,4],oo_ 12 (.load true 3 (.t 3)) [],oo_ 13 (.call 67 [(.t 12)]) [7,6],oo_ 14 (.call
 76 [(.t 11),(.t 13)]) [6,8,8],oo_ 15 (.call 74 [(.t 9),(.t 14)]) [4,9,9],on_ (.store 3 (.t 4) (.t 15)) [10,10,0,1,2,3,4,5,6,7,8,9,10]]) .ret))
theorem o_7x : fnOf Tryz.prog o_7v = some (o_7w, [.cell 4 true 3], 16, false) := by kernel_rfl

abbrev o_7y : FuncId := 55
def o_7z : C := (.seq (.reg false [oo_ 2 (.box 29 (.t 0)) [],oo_ 3 (.box 29 (.t 1)) [],oo_ 4 (.new 29 [.nilsl,(.bool false),.nilsl]) []]) (.seq (.reg true [oo_ 5 (.load true 3 (.t 2)) [],oo_ 6 (.fa 0 (.t 3)) [],oo_ 7 (.load true 2 (.t
 6)) [1],oo_ 8 (.call 121 [(.t 7)]) [2],oo_ 9 (.fa 2 (.t 3)) [],oo_ 10 (.load true 1 (.t 9)) [4],oo_ 11 (.build [.nilsl,(.bool false),.nilsl] [(0,2,(.t 8)),(2,1,(.t 10))]) [3,5],oo_ 12 (.call 23 [(.t 5),(.t 11)])
 [0,6,3],on_ (.store 3 (.t 4) (.t 12)) [7,7,0,1,2,3,4,5,6,7]]) .ret))
theorem o_80 : fnOf Tryz.prog o_7y = some (o_7z, [.cell 4 true 3], 13, false) := by kernel_rfl

abbrev o_81 : FuncId := 63
def o_82 : C := (.seq (.reg false [oo_ 4 (.mv (.d (.int .i64 0))) []]) (.seq (.seq (.reg false [om_ 7 0 [],oo_ 8 (.call 18 [(.t 7)]) [0],oo_ 9 (.un .not (.t 8)) [1]]) (.cond (.t 9) (.seq (.reg false [oo_ 4 (.mv (.d (.int .i64 10)))
 []]) .ret) .skip)) (.seq (.seq (.reg false [om_ 10 1 [],oo_ 11 (.len (.t 10)) [0],oo_ 12 (.mv (.d (.int .i64 0))) []]) (.block 0 (.loop (.seq (.reg false [oo_ 13 (.bin .lss (.t 12) (.t 11)) []]) (.seq (.cond (.t 13)
 .skip (.exit 0)) (.seq (.block 1 (.seq (.reg false [oo_ 14 (.ix 1 (.t 10) (.t 12)) [],oo_ 15 (.load false 1 (.t 14)) [0],om_ 6 15 [1,0,1]]) (.seq (.reg false [om_ 16 6 [],oo_ 17 (.bin .lss (.t 16) (.d (.int .i64 0)))
 [0],om_ 18 17 [1],og_ 19 (.mv (.t 6)) 18 false [2],og_ 20 (.bin .gtr (.t 19) (.d (.int .i64 1023))) 18 false [3,2],oo_ 21 (.pick (.t 18) (.d (.bool true)) (.t 20)) [2,4]]) (.cond (.t 21) (.seq (.reg false [oo_ 4 (.mv
 (.d (.int .i64 2))) []]) .ret) .skip)))) (.reg false [oo_ 22 (.bin .add (.t 12) (.d (.int .i64 1))) [],om_ 12 22 [0]]))))))) (.seq (.reg false [oo_ 4 (.mv (.d (.int .i64 0))) []]) .ret))))
theorem o_83 : fnOf Tryz.prog o_81 = some (o_82, [.t 4], 23, false) := by kernel_rfl

abbrev o_84 : FuncId := 64
def o_85 : C := (.seq (.reg false [oo_ 2 (.box 29 (.t 0)) [],oo_ 4 (.new 29 [.nilsl,(.bool false),.nilsl]) [],oo_ 5 (.mv (.d (.int .i64 0))) []]) (.seq (.reg false [oo_ 10 (.fa 0 (.t 2)) [],oo_ 11 (.load true 2 (.t 10)) [0],oo_ 12
 (.call 134 [(.t 11)]) [1],om_ 13 1 [],oo_ 14 (.call 133 [(.t 12),(.t 13)]) [2,3,2],om_ 9 14 [4],oo_ 15 (.ext (.t 9) 0) [5],oo_ 16 (.ext (.t 9) 1) [5],oo_ 6 (.new 25 [.nilsl]) [],on_ (.store 1 (.t 6) (.t 15))
 [8,6,4,0,1,2,3,4,5,6,8],om_ 7 16 [7,9,0,1,2,3,4,5,6,7,8,9]]) (.seq (.seq (.reg false [om_ 17 7 [],oo_ 18 (.bin .neq (.t 17) (.d (.int .i64 0))) [0]]) (.cond (.t 18) (.seq (.reg false [oo_ 19 (.build [.nilsl,(.bool
 false),.nilsl] []) [],om_ 20 7 [],on_ (.store 3 (.t 4) (.t 19)) [0,0],om_ 5 20 [1,2,0,1,2]]) .ret) .skip)) (.seq (.reg false [oo_ 22 (.load true 3 (.t 2)) [],oo_ 23 (.call 67 [(.t 22)]) [0],om_ 24 1 [],oo_ 25 (.call 133
 [(.t 23),(.t 24)]) [1,2,1],om_ 21 25 [3],oo_ 26 (.ext (.t 21) 0) [4],oo_ 27 (.ext (.t 21) 1) [4],oo_ 8 (.new 25 [.nilsl]) [],on_ (.store 1 (.t 8) (.t 26)) [7,5,3,0,1,2,3,4,5,7],om_ 7 27 [6,8,0,1,2,3,4,5,6,7,8]]) (.seq
 (.seq (.reg false [om_ 28 7 [],oo_ 29 (.bin .neq (.t 28) (.d (.int .i64 0))) [0]]) (.cond (.t 29) (.seq (.reg false [oo_ 30 (.build [.nilsl,(.bool false),.nilsl] []) [],om_ 31 7 [],on_ (.store 3 (.t 4) (.t 30))
 [0,0],om_ 5 31 [1,2,0,1,2]]) .ret) .skip)) (.seq (.reg true [oo_ 32 (.fa 0 (.t 2)) [],oo_ 33 (.load true 2 (.t 32)) [0],oo_ 34 (.call 136 [(.t 33)]) [1],om_ 35 34 [2,2],og_ 36 (.mv (.t 1)) 35 true [3],og_ 37 (.bin .and
 (.t 36) (.d (.int .i64 1))) 35 true [4,3],og_ 38 (.bin .eql (.t 37) (.d (.int .i64 1))) 35 true [5,3],oo_ 39 (.pick (.t 35) (.t 38) (.d (.bool false))) [3,6],oo_ 40 (.load true 1 (.t 6)) [],oo_ 41 (.call 135 [(.t
 39),(.t 40)]) [7,8,3],oo_ 42 (.load true 1 (.t 8)) [],oo_ 43 (.call 74 [(.t 41),(.t 42)]) [9,10,9],on_ (.store 3 (.t 4) (.t 43)) [11,11,0,1,2,3,4,5,6,7,8,9,10,11],oo_ 5 (.mv (.d (.int .i64 0)))
 [12,0,1,2,3,4,5,6,7,8,9,10,11,12]]) .ret))))))
theorem o_86 : fnOf Tryz.prog o_84 = some (o_85, [.cell 4 true 3, .t 5], 44, false) := by kernel_rfl

abbrev o_87 : FuncId := 65
def o_88 : C := (.seq (.reg false [oo_ 1 (.box 29 (.t 0)) [],oo_ 2 (.mv (.d (.bool false))) []]) (.seq (.reg false [oo_ 3 (.fa 2 (.t 1)) [],oo_ 4 (.load true 1 (.t 3)) [0],oo_ 5 (.call 137 [(.t 4)]) [1],om_ 2 5 [2,2,0,1,2]]) .ret))
theorem o_89 : fnOf Tryz.prog o_87 = some (o_88, [.t 2], 6, false) := by kernel_rfl

abbrev o_8a : FuncId := 66
def o_8b : C := (.seq (.reg false [oo_ 1 (.box 27 (.t 0)) [],⟨some 2,.mv (.d (.str ⟨#[]⟩)),none,[]⟩]) (.seq (.seq (.reg false [oo_ 3 (.fa 1 (.t 1)) [],oo_ 4 (.load false 1 (.t 3)) [0]]) (.cond (.t 4) (.seq (.reg false [oo_ 5 (.fa 0 (.t
 1)) [],oo_ 6 (.load true 1 (.t 5)) [0],oo_ 7 (.call 68 [(.t 6)]) [1],⟨some 8,.bin .add (.d (.str ⟨#[45]⟩)) (.t 7),none,[2]⟩,om_ 2 8 [3,2,0,1,2,3]]) .ret) .skip)) (.seq (.reg false [oo_ 9 (.fa 0 (.t 1)) [],oo_ 10 (.load
 true 1 (.t 9)) [0],oo_ 11 (.call 68 [(.t 10)]) [1],om_ 2 11 [2,2,0,1,2]]) .ret)))
theorem o_8c : fnOf Tryz.prog o_8a = some (o_8b, [.t 2], 12, false) := by kernel_rfl

abbrev o_8d : FuncId := 67
def o_8e : C := (.seq (.reg false [oo_ 1 (.box 29 (.t 0)) [],oo_ 2 (.new 25 [.nilsl]) []]) (.seq (.reg true [oo_ 3 (.fa 2 (.t 1)) [],oo_ 4 (.load true 1 (.t 3)) [0],oo_ 5 (.bsl 194 1 1 [(.int .u64 0)] [(0,1,(.d (.int .u64 1)))]) [],oo_
 6 (.call 139 [(.t 5)]) [2],oo_ 7 (.call 138 [(.t 4),(.t 6)]) [1,3,3],on_ (.store 1 (.t 2) (.t 7)) [4,4,0,1,2,3,4]]) .ret))
theorem o_8f : fnOf Tryz.prog o_8d = some (o_8e, [.cell 2 true 1], 8, false) := by kernel_rfl

abbrev o_8g : FuncId := 68
def o_8h : C := (.seq (.reg false [oo_ 1 (.box 25 (.t 0)) [],⟨some 2,.mv (.d (.str ⟨#[]⟩)),none,[]⟩]) (.seq (.seq (.reg false [oo_ 8 (.load true 1 (.t 1)) [],oo_ 9 (.call 137 [(.t 8)]) [0]]) (.cond (.t 9) (.seq (.reg false [⟨some 2,.mv
 (.d (.str ⟨#[48]⟩)),none,[]⟩]) .ret) .skip)) (.seq (.reg false [⟨some 3,.mv (.d (.str ⟨#[]⟩)),none,[]⟩]) (.seq (.seq (.reg false [oo_ 10 (.fa 0 (.t 1)) [],oo_ 11 (.load false 1 (.t 10)) [0],om_ 4 11 [1,0,1]]) (.block 0
 (.loop (.seq (.seq (.reg false [om_ 12 4 [],oo_ 13 (.len (.t 12)) [0],oo_ 14 (.bin .gtr (.t 13) (.d (.int .i64 0))) [1]]) (.cond (.t 14) .skip (.exit 0))) (.block 1 (.seq (.reg false [om_ 16 4 [],oo_ 17 (.call 140 [(.t
 16),(.d (.int .u64 1000000000000000000))]) [0],om_ 15 17 [1],oo_ 18 (.ext (.t 15) 0) [2],oo_ 19 (.ext (.t 15) 1) [2],om_ 5 18 [3,1,0,1,2,3],om_ 6 19 [4,5,0,1,2,3,4,5]]) (.seq (.reg false [om_ 20 5 [],oo_ 21 (.call 141
 [(.t 20)]) [0],oo_ 22 (.fld false 0 1 (.t 21)) [1],om_ 4 22 [2,1,0,1,2]]) (.seq (.reg false [om_ 23 6 [],oo_ 24 (.call 142 [(.t 23),(.d (.int .i64 10))]) [0],om_ 7 24 [1,1,0,1]]) (.seq (.seq (.reg false [om_ 25 4 [],oo_
 26 (.len (.t 25)) [0],oo_ 27 (.bin .gtr (.t 26) (.d (.int .i64 0))) [1]]) (.cond (.t 27) (.reg false [om_ 28 7 [],oo_ 29 (.lens (.t 28)) [0],oo_ 30 (.bin .sub (.d (.int .i64 18)) (.t 29)) [1],⟨some 31,.call 143 [(.d
 (.str ⟨#[48]⟩)),(.t 30)],none,[2]⟩,om_ 32 7 [],oo_ 33 (.bin .add (.t 31) (.t 32)) [3,4],om_ 7 33 [5,3,0,1,2,3,4,5]]) .skip)) (.reg false [om_ 34 7 [],om_ 35 3 [],oo_ 36 (.bin .add (.t 34) (.t 35)) [0,1],om_ 3 36
 [2,0,1,2]])))))))))) (.seq (.reg false [om_ 37 3 [],om_ 2 37 [0,0]]) .ret)))))
theorem o_8i : fnOf Tryz.prog o_8g = some (o_8h, [.t 2], 38, false) := by kernel_rfl

abbrev o_8j : FuncId := 69
def o_8k : C := (.seq (.reg false [oo_ 2 (.box 27 (.t 0)) [],oo_ 3 (.box 27 (.t 1)) [],oo_ 4 (.new 29 [.nilsl,(.bool false),.nilsl]) [],oo_ 5 (.mv (.d (.int .i64 0))) []]) (.seq (.seq (.reg false [oo_ 6 (.load true 2 (.t 3)) [],oo_ 7
 (.call 134 [(.t 6)]) [0],oo_ 8 (.call 137 [(.t 7)]) [1,1]]) (.cond (.t 8) (.seq (.reg false [oo_ 9 (.build [.nilsl,(.bool false),.nilsl] []) [],on_ (.store 3 (.t 4) (.t 9)) [0,0],oo_ 5 (.mv (.d (.int .i64 7))) [1,0,1]])
 .ret) .skip)) (.seq (.reg true [oo_ 10 (.load true 2 (.t 2)) [],oo_ 11 (.call 136 [(.t 10)]) [0],oo_ 12 (.load true 2 (.t 3)) [],oo_ 13 (.call 136 [(.t 12)]) [2,1],oo_ 14 (.beq true (.t 11) (.t 13)) [1,3],oo_ 15 (.load
 true 2 (.t 2)) [],oo_ 16 (.call 134 [(.t 15)]) [5,3],oo_ 17 (.call 135 [(.t 14),(.t 16)]) [4,6,6],oo_ 18 (.load true 2 (.t 3)) [],oo_ 19 (.call 134 [(.t 18)]) [8,7],oo_ 20 (.call 74 [(.t 17),(.t 19)]) [7,9,9],on_
 (.store 3 (.t 4) (.t 20)) [10,10,0,1,2,3,4,5,6,7,8,9,10],oo_ 5 (.mv (.d (.int .i64 0))) [11,0,1,2,3,4,5,6,7,8,9,10,11]]) .ret)))
theorem o_8l : fnOf Tryz.prog o_8j = some (o_8k, [.cell 4 true 3, .t 5], 21, false) := by kernel_rfl

abbrev o_8m : FuncId := 70
def o_8n : C := (.seq (.reg false [oo_ 2 (.box 27 (.t 0)) [],oo_ 3 (.box 27 (.t 1)) [],oo_ 4 (.new 27 [.nilsl,(.bool false)]) []]) (.seq (.reg true [oo_ 5 (.fa 1 (.t 2)) [],oo_ 6 (.load false 1 (.t 5)) [0],oo_ 7 (.fa 1 (.t 3)) [],oo_ 8
 (.load false 1 (.t 7)) [2],oo_ 9 (.beq true (.t 6) (.t 8)) [1,3],oo_ 10 (.fa 0 (.t 2)) [],oo_ 11 (.load true 1 (.t 10)) [5],oo_ 12 (.fa 0 (.t 3)) [],oo_ 13 (.load true 1 (.t 12)) [7],oo_ 14 (.call 76 [(.t 11),(.t 13)])
 [6,8],oo_ 15 (.call 135 [(.t 9),(.t 14)]) [4,9,9],on_ (.store 2 (.t 4) (.t 15)) [10,10,0,1,2,3,4,5,6,7,8,9,10]]) .ret))
theorem o_8o : fnOf Tryz.prog o_8m = some (o_8n, [.cell 4 true 2], 16, false) := by kernel_rfl

abbrev o_8p : FuncId := 71
def o_8q : C := (.seq (.reg false [oo_ 1 (.box 29 (.t 0)) [],oo_ 2 (.new 27 [.nilsl,(.bool false)]) []]) (.seq (.reg false [oo_ 3 (.load true 3 (.t 1)) [],oo_ 4 (.call 67 [(.t 3)]) [0],oo_ 5 (.call 135 [(.d (.bool false)),(.t 4)])
 [1,1],on_ (.store 2 (.t 2) (.t 5)) [2,2,0,1,2]]) .ret))
theorem o_8r : fnOf Tryz.prog o_8p = some (o_8q, [.cell 2 true 2], 6, false) := by kernel_rfl

abbrev o_8s : FuncId := 72
def o_8t : C := (.seq (.reg false [oo_ 2 (.new 27 [.nilsl,(.bool false)]) []]) (.seq (.seq (.reg false [om_ 3 0 [],oo_ 4 (.bin .lss (.t 3) (.d (.int .i64 0))) [0]]) (.cond (.t 4) (.seq (.reg false [om_ 5 0 [],oo_ 6 (.conv .u64 (.t 5))
 [0],oo_ 7 (.un .neg (.t 6)) [1],oo_ 8 (.bsl 194 1 1 [(.int .u64 0)] [(0,1,(.t 7))]) [2],oo_ 9 (.call 139 [(.t 8)]) [3],oo_ 10 (.call 135 [(.d (.bool true)),(.t 9)]) [4,4],on_ (.store 2 (.t 2) (.t 10))
 [5,5,0,1,2,3,4,5]]) .ret) .skip)) (.seq (.reg false [om_ 11 0 [],oo_ 12 (.conv .u64 (.t 11)) [0],oo_ 13 (.bsl 194 1 1 [(.int .u64 0)] [(0,1,(.t 12))]) [1],oo_ 14 (.call 139 [(.t 13)]) [2],oo_ 15 (.call 135 [(.d (.bool
 false)),(.t 14)]) [3,3],on_ (.store 2 (.t 2) (.t 15)) [4,4,0,1,2,3,4]]) .ret)))
theorem o_8u : fnOf Tryz.prog o_8s = some (o_8t, [.cell 2 true 2], 16, false) := by kernel_rfl

abbrev o_8v : FuncId := 73
def o_8w : C := (.seq (.reg false [oo_ 2 (.box 27 (.t 0)) [],oo_ 3 (.box 27 (.t 1)) [],oo_ 4 (.mv (.d (.int .i64 0))) []]) (.seq (.block 0 (.seq (.reg false [oo_ 6 (.fa 1 (.t 2)) [],oo_ 7 (.load false 1 (.t 6)) [0],om_ 8 7 [1],og_ 9
 (.fa 1 (.t 3)) 8 true [2],og_ 10 (.load false 1 (.t 9)) 8 true [3,2],oo_ 11 (.pick (.t 8) (.t 10) (.d (.bool false))) [2,4],om_ 5 11 [5,2]]) (.cond (.t 5) (.seq (.reg false [oo_ 12 (.fa 0 (.t 3)) [],oo_ 13 (.load true 1
 (.t 12)) [0],oo_ 14 (.fa 0 (.t 2)) [],oo_ 15 (.load true 1 (.t 14)) [2],oo_ 16 (.call 144 [(.t 13),(.t 15)]) [1,3],om_ 4 16 [4,4,0,1,2,3,4]]) .ret) (.seq (.reg false [oo_ 18 (.fa 1 (.t 2)) [],oo_ 19 (.load false 1 (.t
 18)) [0],om_ 17 19 [1]]) (.cond (.t 17) (.seq (.reg false [oo_ 4 (.mv (.d (.int .i64 (-1)))) []]) .ret) (.seq (.reg false [oo_ 21 (.fa 1 (.t 3)) [],oo_ 22 (.load false 1 (.t 21)) [0],om_ 20 22 [1]]) (.cond (.t 20) (.seq
 (.reg false [oo_ 4 (.mv (.d (.int .i64 1))) []]) .ret) .skip))))))) (.seq (.reg false [oo_ 23 (.fa 0 (.t 2)) [],oo_ 24 (.load true 1 (.t 23)) [0],oo_ 25 (.fa 0 (.t 3)) [],oo_ 26 (.load true 1 (.t 25)) [2],oo_ 27 (.call
 144 [(.t 24),(.t 26)]) [1,3],om_ 4 27 [4,4,0,1,2,3,4]]) .ret)))
theorem o_8x : fnOf Tryz.prog o_8v = some (o_8w, [.t 4], 28, false) := by kernel_rfl

abbrev o_8y : FuncId := 74
def o_8z : C := (.seq (.reg false [oo_ 2 (.box 27 (.t 0)) [],oo_ 3 (.box 25 (.t 1)) [],oo_ 4 (.new 29 [.nilsl,(.bool false),.nilsl]) []]) (.seq (.reg true [oo_ 14 (.load true 2 (.t 2)) [],oo_ 15 (.call 134 [(.t 14)]) [0],oo_ 16 (.load
 true 1 (.t 3)) [],oo_ 17 (.call 145 [(.t 15),(.t 16)]) [1,2,1],oo_ 5 (.new 25 [.nilsl]) [],on_ (.store 1 (.t 5) (.t 17)) [4,3,3,0,1,2,3,4]]) (.seq (.reg true [oo_ 19 (.load true 2 (.t 2)) [],oo_ 20 (.call 134 [(.t 19)])
 [0],oo_ 21 (.load true 1 (.t 5)) [],oo_ 22 (.call 146 [(.t 20),(.t 21)]) [1,2,1],om_ 18 22 [3],oo_ 23 (.ext (.t 18) 0) [4],oo_ 24 (.ext (.t 18) 1) [4],oo_ 25 (.ext (.t 18) 2) [4],oo_ 6 (.new 25 [.nilsl]) [],oo_ 7 (.new
 25 [.nilsl]) [],on_ (.store 1 (.t 6) (.t 23)) [8,5,3,0,1,2,3,4,5,8,9],on_ (.store 1 (.t 7) (.t 24)) [9,6,10,0,1,2,3,4,5,6,8,9,10],om_ 8 25 [7,11,0,1,2,3,4,5,6,7,8,9,10,11]]) (.seq (.reg false [oo_ 27 (.load true 1 (.t
 3)) [],oo_ 28 (.load true 1 (.t 5)) [],oo_ 29 (.call 146 [(.t 27),(.t 28)]) [0,1],om_ 26 29 [2],oo_ 30 (.ext (.t 26) 0) [3],oo_ 31 (.ext (.t 26) 1) [3],oo_ 32 (.ext (.t 26) 2) [3],oo_ 9 (.new 25 [.nilsl]) [],oo_ 10
 (.new 25 [.nilsl]) [],on_ (.store 1 (.t 9) (.t 30)) [7,4,2,0,1,2,3,4,7,8],on_ (.store 1 (.t 10) (.t 31)) [8,5,9,0,1,2,3,4,5,7,8,9],om_ 11 32 [6,10,0,1,2,3,4,5,6,7,8,9,10]]) (.seq (.reg true [oo_ 34 (.load true 1 (.t 9))
 [],oo_ 35 (.bsl 194 1 1 [(.int .u64 0)] [(0,1,(.d (.int .u64 1)))]) [],oo_ 36 (.call 139 [(.t 35)]) [1],oo_ 37 (.call 147 [(.t 34),(.t 36)]) [0,2,2],om_ 33 37 [3],oo_ 38 (.ext (.t 33) 0) [4],oo_ 39 (.ext (.t 33) 1)
 [4],oo_ 12 (.new 25 [.nilsl]) [],on_ (.store 1 (.t 12) (.t 38)) [7,5,3,0,1,2,3,4,5,7],om_ 13 39 [6,8,0,1,2,3,4,5,6,7,8]]) (.seq (.reg true [oo_ 40 (.load true 2 (.t 2)) [],oo_ 41 (.call 136 [(.t 40)]) [0],oo_ 42 (.load
 true 1 (.t 6)) [],oo_ 43 (.call 135 [(.t 41),(.t 42)]) [1,2,1],oo_ 44 (.load true 1 (.t 12)) [],oo_ 45 (.build [.nilsl,(.bool false),.nilsl] [(0,2,(.t 43)),(2,1,(.t 44))]) [3,4],on_ (.store 3 (.t 4) (.t 45))
 [5,3,0,1,2,3,4,5]]) .ret))))))
theorem o_90 : fnOf Tryz.prog o_8y = some (o_8z, [.cell 4 true 3], 46, false) := by kernel_rfl

abbrev o_91 : FuncId := 75
def o_92 : C := (.seq (.reg false [oo_ 2 (.box 27 (.t 0)) [],oo_ 3 (.box 27 (.t 1)) [],oo_ 4 (.new 27 [.nilsl,(.bool false)]) []]) (.seq (.seq (.reg false [oo_ 9 (.fa 1 (.t 2)) [],oo_ 10 (.load false 1 (.t 9)) [0],oo_ 11 (.fa 1 (.t 3))
 [],oo_ 12 (.load false 1 (.t 11)) [2],oo_ 13 (.beq false (.t 10) (.t 12)) [1,3]]) (.cond (.t 13) (.seq (.reg true [oo_ 14 (.fa 1 (.t 2)) [],oo_ 15 (.load false 1 (.t 14)) [0],oo_ 16 (.fa 0 (.t 2)) [],oo_ 17 (.load true
 1 (.t 16)) [2],oo_ 18 (.fa 0 (.t 3)) [],oo_ 19 (.load true 1 (.t 18)) [4],oo_ 20 (.call 138 [(.t 17),(.t 19)]) [3,5],oo_ 21 (.call 135 [(.t 15),(.t 20)]) [1,6,6],on_ (.store 2 (.t 4) (.t 21)) [7,7,0,1,2,3,4,5,6,7]])
 .ret) .skip)) (.seq (.seq (.reg false [oo_ 23 (.fa 0 (.t 2)) [],oo_ 24 (.load true 1 (.t 23)) [0],oo_ 25 (.fa 0 (.t 3)) [],oo_ 26 (.load true 1 (.t 25)) [2],oo_ 27 (.call 147 [(.t 24),(.t 26)]) [1,3],om_ 22 27 [4],oo_
 28 (.ext (.t 22) 0) [5],oo_ 29 (.ext (.t 22) 1) [5],oo_ 5 (.new 25 [.nilsl]) [],on_ (.store 1 (.t 5) (.t 28)) [8,6,4,0,1,2,3,4,5,6,8],om_ 6 29 [7,9,0,1,2,3,4,5,6,7,8,9]]) (.seq (.reg false [om_ 30 6 [],oo_ 31 (.bin .eql
 (.t 30) (.d (.int .i64 0))) [0]]) (.cond (.t 31) (.seq (.reg false [oo_ 32 (.fa 1 (.t 2)) [],oo_ 33 (.load false 1 (.t 32)) [0],oo_ 34 (.load true 1 (.t 5)) [],oo_ 35 (.call 135 [(.t 33),(.t 34)]) [1,2],on_ (.store 2
 (.t 4) (.t 35)) [3,3,0,1,2,3]]) .ret) .skip))) (.seq (.reg false [oo_ 37 (.fa 0 (.t 3)) [],oo_ 38 (.load true 1 (.t 37)) [0],oo_ 39 (.fa 0 (.t 2)) [],oo_ 40 (.load true 1 (.t 39)) [2],oo_ 41 (.call 147 [(.t 38),(.t
 40)]) [1,3],om_ 36 41 [4],oo_ 42 (.ext (.t 36) 0) [5],oo_ 43 (.ext (.t 36) 1) [5],oo_ 7 (.new 25 [.nilsl]) [],on_ (.store 1 (.t 7) (.t 42)) [8,6,4,0,1,2,3,4,5,6,8],om_ 8 43 [7,9,0,1,2,3,4,5,6,7,8,9]]) (.seq (.reg false
 [oo_ 44 (.fa 1 (.t 3)) [],oo_ 45 (.load false 1 (.t 44)) [0],oo_ 46 (.load true 1 (.t 7)) [],oo_ 47 (.call 135 [(.t 45),(.t 46)]) [1,2],on_ (.store 2 (.t 4) (.t 47)) [3,3,0,1,2,3]]) .ret)))))
theorem o_93 : fnOf Tryz.prog o_91 = some (o_92, [.cell 4 true 2], 48, false) := by kernel_rfl

abbrev o_94 : FuncId := 76
def o_95 : C := (.seq (.reg false [oo_ 2 (.box 25 (.t 0)) [],oo_ 3 (.box 25 (.t 1)) [],oo_ 4 (.new 25 [.nilsl]) []]) (.seq (.reg false [oo_ 14 (.fa 0 (.t 2)) [],oo_ 15 (.load false 1 (.t 14)) [0],oo_ 16 (.len (.t 15)) [1],oo_ 17 (.fa 0
 (.t 3)) [],oo_ 18 (.load false 1 (.t 17)) [3],oo_ 19 (.len (.t 18)) [4],oo_ 20 (.bin .add (.t 16) (.t 19)) [2,5],oo_ 21 (.mksl 194 1 8 [(.int .u64 0)] (.t 20) (.t 20)) [6,6],om_ 5 21 [7,0,1,2,3,4,5,6,7]]) (.seq (.seq
 (.reg false [oo_ 22 (.fa 0 (.t 2)) [],oo_ 23 (.load false 1 (.t 22)) [0],oo_ 24 (.len (.t 23)) [1],oo_ 25 (.mv (.d (.int .i64 0))) []]) (.block 0 (.loop (.seq (.reg false [oo_ 26 (.bin .lss (.t 25) (.t 24)) []]) (.seq
 (.cond (.t 26) .skip (.exit 0)) (.seq (.block 1 (.seq (.reg false [om_ 27 25 [],oo_ 28 (.ix 1 (.t 23) (.t 25)) [],oo_ 29 (.load false 1 (.t 28)) [1],om_ 6 27 [0,0,1,2],om_ 7 29 [2,3,0,1,2,3]]) (.seq (.reg false [oo_ 8
 (.mv (.d (.int .u64 0))) []]) (.seq (.seq (.reg false [oo_ 30 (.fa 0 (.t 3)) [],oo_ 31 (.load false 1 (.t 30)) [0],oo_ 32 (.len (.t 31)) [1],oo_ 33 (.mv (.d (.int .i64 0))) []]) (.block 2 (.loop (.seq (.reg false [oo_
 34 (.bin .lss (.t 33) (.t 32)) []]) (.seq (.cond (.t 34) .skip (.exit 2)) (.seq (.block 3 (.seq (.reg false [om_ 35 33 [],oo_ 36 (.ix 1 (.t 31) (.t 33)) [],oo_ 37 (.load false 1 (.t 36)) [1],om_ 9 35 [0,0,1,2],om_ 10 37
 [2,3,0,1,2,3]]) (.seq (.reg false [om_ 39 7 [],om_ 40 10 [],oo_ 41 (.call 148 [(.t 39),(.t 40)]) [0,1],om_ 38 41 [2],oo_ 42 (.ext (.t 38) 0) [3],oo_ 43 (.ext (.t 38) 1) [3],om_ 11 42 [4,2,0,1,2,3,4],om_ 12 43
 [5,6,0,1,2,3,4,5,6]]) (.seq (.reg false [oo_ 13 (.mv (.d (.int .u64 0))) []]) (.seq (.reg false [om_ 45 12 [],om_ 46 5 [],om_ 47 6 [],om_ 48 9 [],oo_ 49 (.bin .add (.t 47) (.t 48)) [2,3],oo_ 50 (.ix 1 (.t 46) (.t 49))
 [1,4],oo_ 51 (.load false 1 (.t 50)) [5],oo_ 52 (.call 149 [(.t 45),(.t 51),(.d (.int .u64 0))]) [0,6],om_ 44 52 [7],oo_ 53 (.ext (.t 44) 0) [8],oo_ 54 (.ext (.t 44) 1) [8],om_ 12 53 [9,7,0,1,2,3,4,5,6,7,8,9],om_ 13 54
 [10,11,0,1,2,3,4,5,6,7,8,9,10,11]]) (.seq (.reg false [om_ 55 11 [],om_ 56 13 [],oo_ 57 (.bin .add (.t 55) (.t 56)) [0,1],om_ 11 57 [2,0,1,2]]) (.seq (.reg false [om_ 59 12 [],om_ 60 8 [],oo_ 61 (.call 149 [(.t 59),(.t
 60),(.d (.int .u64 0))]) [0,1],om_ 58 61 [2],oo_ 62 (.ext (.t 58) 0) [3],oo_ 63 (.ext (.t 58) 1) [3],om_ 12 62 [4,2,0,1,2,3,4],om_ 13 63 [5,6,0,1,2,3,4,5,6]]) (.reg false [om_ 64 5 [],om_ 65 6 [],om_ 66 9 [],oo_ 67
 (.bin .add (.t 65) (.t 66)) [1,2],om_ 68 12 [],om_ 69 11 [],om_ 70 13 [],oo_ 71 (.bin .add (.t 69) (.t 70)) [5,6],oo_ 72 (.ix 1 (.t 64) (.t 67)) [0,3,0,1,2,3,4],on_ (.store 1 (.t 72) (.t 68)) [8,4,0,1,2,3,4],om_ 8 71
 [7,9,0,1,2,3,4,5,6,7,8,9]])))))))) (.reg false [oo_ 73 (.bin .add (.t 33) (.d (.int .i64 1))) [],om_ 33 73 [0]]))))))) (.reg false [om_ 74 5 [],om_ 75 6 [],oo_ 76 (.fa 0 (.t 3)) [],oo_ 77 (.load false 1 (.t 76)) [2],oo_
 78 (.len (.t 77)) [3],oo_ 79 (.bin .add (.t 75) (.t 78)) [1,4],om_ 80 8 [],oo_ 81 (.ix 1 (.t 74) (.t 79)) [0,5,0,1,2,3,4,5,6],on_ (.store 1 (.t 81) (.t 80)) [7,6,0,1,2,3,4,5,6]]))))) (.reg false [oo_ 82 (.bin .add (.t
 25) (.d (.int .i64 1))) [],om_ 25 82 [0]]))))))) (.seq (.reg false [om_ 83 5 [],oo_ 84 (.call 141 [(.t 83)]) [0],on_ (.store 1 (.t 4) (.t 84)) [1,1,0,1]]) .ret))))
theorem o_96 : fnOf Tryz.prog o_94 = some (o_95, [.cell 4 true 1], 85, false) := by kernel_rfl

abbrev o_97 : FuncId := 86
def o_98 : C := (.seq (.reg false [oo_ 1 (.box 52 (.t 0)) [],oo_ 2 (.mv (.d (.int .i64 0))) []]) (.seq (.reg false [oo_ 4 (.load true 3 (.t 1)) [],oo_ 5 (.call 90 [(.t 4)]) [0],om_ 3 5 [1,1,0,1]]) (.seq (.seq (.reg false [om_ 6 3
 [],oo_ 7 (.inl false (.t 6)) [0],om_ 8 7 [1],og_ 9 (.mv (.t 3)) 8 false [2],og_ 10 (.inv (.t 9) "tallymark/chain.good" []) 8 false [3,2,2],og_ 11 (.un .not (.t 10)) 8 false [4,2],oo_ 12 (.pick (.t 8) (.d (.bool true))
 (.t 11)) [2,5],om_ 13 12 [6,4],og_ 14 (.fa 2 (.t 1)) 13 false [7],og_ 15 (.load false 1 (.t 14)) 13 false [8,7],og_ 16 (.bin .lss (.t 15) (.d (.int .i64 1))) 13 false [9,7],oo_ 17 (.pick (.t 13) (.d (.bool true)) (.t
 16)) [7,10],om_ 18 17 [11,7],og_ 19 (.fa 2 (.t 1)) 18 false [12],og_ 20 (.load false 1 (.t 19)) 18 false [13,12],og_ 21 (.bin .gtr (.t 20) (.d (.int .i64 10))) 18 false [14,12],oo_ 22 (.pick (.t 18) (.d (.bool true))
 (.t 21)) [12,15]]) (.cond (.t 22) (.seq (.reg false [oo_ 2 (.mv (.d (.int .i64 10))) []]) .ret) .skip)) (.seq (.seq (.reg true [oo_ 23 (.fa 0 (.t 1)) [],oo_ 24 (.load false 1 (.t 23)) [0],oo_ 25 (.bin .eql (.t 24) (.d
 (.int .i64 1))) [1],om_ 26 25 [2],og_ 27 (.fa 1 (.t 1)) 26 true [3],og_ 28 (.load false 1 (.t 27)) 26 true [4,3],og_ 29 (.bin .add (.t 28) (.d (.int .i64 1))) 26 true [5,3],og_ 30 (.conv .u64 (.t 29)) 26 true [6,3],og_
 31 (.call 160 [(.t 30)]) 26 true [7,3,3],og_ 32 (.fa 2 (.t 1)) 26 true [3],og_ 33 (.load false 1 (.t 32)) 26 true [9,3],og_ 34 (.bin .shl (.d (.int .i64 1)) (.t 33)) 26 true [10,3],og_ 35 (.bin .sub (.t 34) (.d (.int
 .i64 1))) 26 true [11,3],og_ 36 (.bin .mul (.t 31) (.t 35)) 26 true [8,12,3],og_ 37 (.bin .gtr (.t 36) (.d (.int .i64 8192))) 26 true [13,3],oo_ 38 (.pick (.t 26) (.t 37) (.d (.bool false))) [3,14]]) (.cond (.t 38)
 (.seq (.reg false [oo_ 2 (.mv (.d (.int .i64 10))) []]) .ret) .skip)) (.seq (.reg false [oo_ 2 (.mv (.d (.int .i64 0))) []]) .ret)))))
theorem o_99 : fnOf Tryz.prog o_97 = some (o_98, [.t 2], 39, false) := by kernel_rfl

abbrev o_9a : FuncId := 87
def o_9b : C := (.seq (.reg false [oo_ 1 (.box 52 (.t 0)) [],oo_ 2 (.mv (.d (.int .i64 0))) []]) (.seq (.seq (.reg false [oo_ 3 (.load true 3 (.t 1)) [],oo_ 4 (.call 86 [(.t 3)]) [0],oo_ 5 (.bin .neq (.t 4) (.d (.int .i64 0))) [1]])
 (.cond (.t 5) (.seq (.reg false [oo_ 2 (.mv (.d (.int .i64 0))) []]) .ret) .skip)) (.seq (.reg false [oo_ 6 (.fa 2 (.t 1)) [],oo_ 7 (.load false 1 (.t 6)) [0],oo_ 8 (.bin .shl (.d (.int .i64 1)) (.t 7)) [1],oo_ 9 (.bin
 .sub (.t 8) (.d (.int .i64 1))) [2],om_ 2 9 [3,0,1,2,3]]) .ret)))
theorem o_9c : fnOf Tryz.prog o_9a = some (o_9b, [.t 2], 10, false) := by kernel_rfl

abbrev o_9d : FuncId := 89
def o_9e : C := (.seq (.reg false [oo_ 2 (.box 52 (.t 0)) [],oo_ 4 (.mv (.d (.int .i64 0))) []]) (.seq (.seq (.reg false [oo_ 8 (.load true 3 (.t 2)) [],oo_ 9 (.call 86 [(.t 8)]) [0],om_ 5 9 [1,1,0,1]]) (.seq (.reg false [om_ 10 5
 [],oo_ 11 (.bin .neq (.t 10) (.d (.int .i64 0))) [0]]) (.cond (.t 11) (.seq (.reg false [om_ 12 5 [],om_ 4 12 [0,0]]) .ret) .skip))) (.seq (.seq (.reg false [om_ 13 1 [],oo_ 14 (.len (.t 13)) [0],oo_ 15 (.mv (.d (.int
 .i64 0))) []]) (.block 0 (.loop (.seq (.reg false [oo_ 16 (.bin .lss (.t 15) (.t 14)) []]) (.seq (.cond (.t 16) .skip (.exit 0)) (.seq (.block 1 (.seq (.reg false [oo_ 17 (.ix 1 (.t 13) (.t 15)) [],oo_ 18 (.load false 1
 (.t 17)) [0],om_ 7 18 [1,0,1]]) (.seq (.reg false [om_ 19 7 [],oo_ 20 (.bin .lss (.t 19) (.d (.int .i64 0))) [0],om_ 21 20 [1],og_ 22 (.mv (.t 7)) 21 false [2],og_ 23 (.load true 3 (.t 2)) 21 false [2],og_ 24 (.call 87
 [(.t 23)]) 21 false [4,2,2],og_ 25 (.bin .gtr (.t 22) (.t 24)) 21 false [3,5,2],oo_ 26 (.pick (.t 21) (.d (.bool true)) (.t 25)) [2,6]]) (.cond (.t 26) (.seq (.reg false [oo_ 4 (.mv (.d (.int .i64 2))) []]) .ret)
 .skip)))) (.reg false [oo_ 27 (.bin .add (.t 15) (.d (.int .i64 1))) [],om_ 15 27 [0]]))))))) (.seq (.reg false [oo_ 4 (.mv (.d (.int .i64 0))) []]) .ret))))
theorem o_9f : fnOf Tryz.prog o_9d = some (o_9e, [.t 4], 28, false) := by kernel_rfl

abbrev o_9g : FuncId := 90
def o_9h : C := (.seq (.reg false [oo_ 1 (.box 52 (.t 0)) [],oo_ 2 (.mv (.d .nilifc)) []]) (.seq (.seq (.reg false [oo_ 3 (.fa 0 (.t 1)) [],oo_ 4 (.load false 1 (.t 3)) [0]]) (.block 0 (.seq (.reg false [oo_ 6 (.bin .eql (.t 4) (.d
 (.int .i64 1))) [],om_ 5 6 [0]]) (.cond (.t 5) (.seq (.reg false [oo_ 7 (.fa 1 (.t 1)) [],oo_ 8 (.load false 1 (.t 7)) [0],oo_ 9 (.ifc 223 (.t 8)) [1],om_ 2 9 [2,0,1,2]]) .ret) (.seq (.reg false [oo_ 11 (.bin .eql (.t
 4) (.d (.int .i64 2))) [],om_ 10 11 [0]]) (.cond (.t 10) (.seq (.reg false [oo_ 12 (.fa 1 (.t 1)) [],oo_ 13 (.load false 1 (.t 12)) [0],oo_ 14 (.ifc 224 (.t 13)) [1],om_ 2 14 [2,0,1,2]]) .ret) (.seq (.reg false [oo_ 16
 (.bin .eql (.t 4) (.d (.int .i64 3))) [],om_ 15 16 [0]]) (.cond (.t 15) (.seq (.reg false [oo_ 17 (.fa 1 (.t 1)) [],oo_ 18 (.load false 1 (.t 17)) [0],oo_ 19 (.ifc 225 (.t 18)) [1],om_ 2 19 [2,0,1,2]]) .ret)
 .skip)))))))) (.seq (.reg false [oo_ 2 (.mv (.d .nilifc)) []]) .ret)))
theorem o_9i : fnOf Tryz.prog o_9g = some (o_9h, [.t 2], 20, false) := by kernel_rfl

abbrev o_9j : FuncId := 99
def o_9k : C := (.seq (.reg false [oo_ 2 (.box 68 (.t 0)) [],oo_ 3 (.box 70 (.t 1)) [],oo_ 4 (.new 70 [(.int .i64 0),(.int .i64 0),(.bool false)]) []]) (.seq (.seq (.reg false [oo_ 6 (.fa 0 (.t 2)) [],oo_ 7 (.load false 1 (.t 6))
 [0],oo_ 8 (.bin .eql (.t 7) (.d (.int .i64 4))) [1]]) (.cond (.t 8) (.seq (.reg true [oo_ 9 (.fa 0 (.t 3)) [],oo_ 10 (.load false 1 (.t 9)) [0],oo_ 11 (.bin .and (.t 10) (.d (.int .i64 7))) [1],oo_ 12 (.fa 1 (.t 2))
 [],oo_ 13 (.load false 1 (.t 12)) [3],oo_ 14 (.bin .add (.t 13) (.d (.int .i64 1))) [4],oo_ 15 (.bin .rem (.t 11) (.t 14)) [2,5],oo_ 16 (.fa 1 (.t 3)) [],oo_ 17 (.load false 1 (.t 16)) [7],oo_ 18 (.bin .and (.t 17) (.d
 (.int .i64 3))) [8],oo_ 19 (.fa 2 (.t 2)) [],oo_ 20 (.load false 1 (.t 19)) [10],oo_ 21 (.bin .add (.t 20) (.d (.int .i64 1))) [11],oo_ 22 (.bin .rem (.t 18) (.t 21)) [9,12],oo_ 23 (.fa 0 (.t 3)) [0,1,2,3,4,5,6,7,8],on_
 (.store 1 (.t 23) (.t 15)) [14,6,0,1,2,3,4,5,6,7,8],oo_ 24 (.fa 1 (.t 3)) [0,1,2,3,4,5,6,7,8,9,10,11,12,13,14,15],on_ (.store 1 (.t 24) (.t 22)) [16,13,15,0,1,2,3,4,5,6,7,8,9,10,11,12,13,14,15]]) (.seq (.reg false [oo_
 25 (.fa 2 (.t 3)) [],oo_ 26 (.load false 1 (.t 25)) [0],om_ 27 26 [1],og_ 28 (.fa 1 (.t 3)) 27 true [2],og_ 29 (.load false 1 (.t 28)) 27 true [3,2],og_ 30 (.fa 2 (.t 2)) 27 true [2],og_ 31 (.load false 1 (.t 30)) 27
 true [5,2],og_ 32 (.bin .eql (.t 29) (.t 31)) 27 true [4,6,2],oo_ 33 (.pick (.t 27) (.t 32) (.d (.bool false))) [2,7],oo_ 34 (.fa 2 (.t 3)) [0,1,2,3,4,5,6,7,8],on_ (.store 1 (.t 34) (.t 33)) [9,8,2,0,1,2,3,4,5,6,7,8]])
 (.seq (.reg false [oo_ 35 (.load true 3 (.t 3)) [],on_ (.store 3 (.t 4) (.t 35)) [0,0]]) .ret))) .skip)) (.seq (.reg false [oo_ 36 (.fa 2 (.t 2)) [],oo_ 37 (.load false 1 (.t 36)) [0],oo_ 38 (.bin .shl (.d (.int .i64
 1)) (.t 37)) [1],oo_ 39 (.bin .sub (.t 38) (.d (.int .i64 1))) [2],om_ 5 39 [3,0,1,2,3]]) (.seq (.reg false [oo_ 40 (.fa 0 (.t 3)) [],oo_ 41 (.load false 1 (.t 40)) [0],oo_ 42 (.bin .and (.t 41) (.d (.int .i64 15)))
 [1],om_ 43 5 [],oo_ 44 (.bin .add (.t 43) (.d (.int .i64 1))) [3],oo_ 45 (.bin .rem (.t 42) (.t 44)) [2,4],oo_ 46 (.fa 0 (.t 3)) [0,1,2,3,4,5],on_ (.store 1 (.t 46) (.t 45)) [6,5,0,1,2,3,4,5],oo_ 47 (.fa 1 (.t 3))
 [0,1,2,3,4,5,6,7],on_ (.store 1 (.t 47) (.d (.int .i64 0))) [8,7,0,1,2,3,4,5,6,7]]) (.seq (.reg false [oo_ 48 (.fa 2 (.t 3)) [],oo_ 49 (.load false 1 (.t 48)) [0],om_ 50 49 [1],og_ 51 (.fa 0 (.t 3)) 50 true [2],og_ 52
 (.load false 1 (.t 51)) 50 true [3,2],og_ 53 (.mv (.t 5)) 50 true [2],og_ 54 (.bin .eql (.t 52) (.t 53)) 50 true [4,5,2],oo_ 55 (.pick (.t 50) (.t 54) (.d (.bool false))) [2,6],oo_ 56 (.fa 2 (.t 3))
 [0,1,2,3,4,5,6,7],on_ (.store 1 (.t 56) (.t 55)) [8,7,2,0,1,2,3,4,5,6,7]]) (.seq (.reg false [oo_ 57 (.load true 3 (.t 3)) [],on_ (.store 3 (.t 4) (.t 57)) [0,0]]) .ret))))))
theorem o_9l : fnOf Tryz.prog o_9j = some (o_9k, [.cell 4 true 3], 58, false) := by kernel_rfl

abbrev o_9m : FuncId := 100
def o_9n : C := (.seq (.reg false [oo_ 2 (.box 73 (.t 0)) [],oo_ 4 (.mv (.d (.int .i64 0))) []]) (.seq (.seq (.reg false [oo_ 6 (.load true 3 (.t 2)) [],oo_ 7 (.call 169 [(.t 6)]) [0],om_ 5 7 [1,1,0,1]]) (.seq (.reg false [om_ 8 5
 [],oo_ 9 (.bin .neq (.t 8) (.d (.int .i64 0))) [0]]) (.cond (.t 9) (.seq (.reg false [om_ 10 5 [],om_ 4 10 [0,0]]) .ret) .skip))) (.seq (.seq (.reg false [om_ 11 1 [],oo_ 12 (.mkf (.func 171) [(.t 2)]) [],oo_ 13 (.call
 170 [(.t 11),(.t 12)]) [0,1]]) (.cond (.t 13) (.seq (.reg false [oo_ 4 (.mv (.d (.int .i64 2))) []]) .ret) .skip)) (.seq (.reg false [oo_ 4 (.mv (.d (.int .i64 0))) []]) .ret))))
theorem o_9o : fnOf Tryz.prog o_9m = some (o_9n, [.t 4], 14, false) := by kernel_rfl

abbrev o_9p : FuncId := 101
def o_9q : C := (.seq (.reg false [oo_ 1 (.box 73 (.t 0)) [],oo_ 2 (.mv (.d (.int .i64 0))) []]) (.seq (.seq (.reg false [oo_ 3 (.fa 0 (.t 1)) [],oo_ 4 (.load false 1 (.t 3)) [0],oo_ 5 (.bin .eql (.t 4) (.d (.int .i64 4))) [1]]) (.cond
 (.t 5) (.seq (.reg false [oo_ 6 (.fa 1 (.t 1)) [],oo_ 7 (.load false 1 (.t 6)) [0],oo_ 8 (.bin .add (.t 7) (.d (.int .i64 1))) [1],oo_ 9 (.fa 2 (.t 1)) [],oo_ 10 (.load false 1 (.t 9)) [3],oo_ 11 (.bin .add (.t 10) (.d
 (.int .i64 1))) [4],oo_ 12 (.bin .mul (.t 8) (.t 11)) [2,5],om_ 2 12 [6,0,1,2,3,4,5,6]]) .ret) .skip)) (.seq (.reg false [oo_ 13 (.fa 2 (.t 1)) [],oo_ 14 (.load false 1 (.t 13)) [0],oo_ 15 (.bin .shl (.d (.int .i64 1))
 (.t 14)) [1],om_ 2 15 [2,0,1,2]]) .ret)))
theorem o_9r : fnOf Tryz.prog o_9p = some (o_9q, [.t 2], 16, false) := by kernel_rfl

abbrev o_9s : FuncId := 102
def o_9t : C := (.seq (.reg false [oo_ 1 (.box 78 (.t 0)) [],oo_ 2 (.mv .bad) []]) (.seq (.reg true [oo_ 3 (.mkm 1000391) [],oo_ 4 (.load true 3 (.t 1)) [],oo_ 5 (.call 21 [(.d (.int .i64 1))]) [],on_ (.mput 1000391 [0,0,1] 3 true (.t
 3) (.t 4) (.t 5)) [0,1,2],om_ 6 3 [0,1,2,3],om_ 2 6 [4,2,0,1,2,3,4]]) .ret))
theorem o_9u : fnOf Tryz.prog o_9s = some (o_9t, [.t 2], 7, false) := by kernel_rfl

abbrev o_9v : FuncId := 103
def o_9w : C := (.seq (.reg false [oo_ 4 (.mv .bad) []]) (.seq (.reg false [oo_ 10 (.mkm 1000391) [],om_ 5 10 [0,0]]) (.seq (.seq (.reg false [om_ 11 0 [],oo_ 12 (.call 106 [(.t 11)]) [0],oo_ 13 (.len (.t 12)) [1],oo_ 14 (.mv (.d (.int
 .i64 0))) []]) (.block 0 (.loop (.seq (.reg false [oo_ 15 (.bin .lss (.t 14) (.t 13)) []]) (.seq (.cond (.t 15) .skip (.exit 0)) (.seq (.block 1 (.seq (.reg false [oo_ 16 (.ix 6 (.t 12) (.t 14)) [],oo_ 17 (.load true 6
 (.t 16)) [0],oo_ 7 (.new 91 [(.int .i64 0),(.int .i64 0),(.bool false),.nilsl,(.bool false),.nilsl]) [],on_ (.store 6 (.t 7) (.t 17)) [2,1,0,1,2]]) (.seq (.reg false [om_ 18 1 [],oo_ 19 (.fa 0 (.t 7)) [],oo_ 20 (.load
 true 3 (.t 19)) [1],oo_ 21 (.callv (.t 18) [(.t 20)]) [0,2],oo_ 22 (.call 106 [(.t 21)]) [3,3],oo_ 23 (.len (.t 22)) [4],oo_ 24 (.mv (.d (.int .i64 0))) []]) (.block 2 (.loop (.seq (.reg false [oo_ 25 (.bin .lss (.t 24)
 (.t 23)) []]) (.seq (.cond (.t 25) .skip (.exit 2)) (.seq (.block 3 (.seq (.reg false [oo_ 26 (.ix 6 (.t 22) (.t 24)) [],oo_ 27 (.load true 6 (.t 26)) [0],oo_ 9 (.new 91 [(.int .i64 0),(.int .i64 0),(.bool
 false),.nilsl,(.bool false),.nilsl]) [],on_ (.store 6 (.t 9) (.t 27)) [2,1,0,1,2]]) (.reg true [om_ 28 5 [],oo_ 29 (.fa 0 (.t 9)) [],oo_ 30 (.load true 3 (.t 29)) [1],oo_ 31 (.fa 3 (.t 7)) [],oo_ 32 (.load true 3 (.t
 31)) [3],oo_ 33 (.fa 3 (.t 9)) [],oo_ 34 (.load true 3 (.t 33)) [5],oo_ 35 (.call 54 [(.t 32),(.t 34)]) [4,6],oo_ 36 (.call 114 [(.t 28),(.t 30),(.t 35)]) [0,2,7,7]]))) (.reg false [oo_ 37 (.bin .add (.t 24) (.d (.int
 .i64 1))) [],om_ 24 37 [0]]))))))))) (.reg false [oo_ 38 (.bin .add (.t 14) (.d (.int .i64 1))) [],om_ 14 38 [0]]))))))) (.seq (.reg false [om_ 39 5 [],om_ 4 39 [0,0]]) .ret))))
theorem o_9x : fnOf Tryz.prog o_9v = some (o_9w, [.t 4], 40, false) := by kernel_rfl

abbrev o_9y : FuncId := 104
def o_9z : C := (.seq (.reg false [oo_ 2 (.box 78 (.t 0)) [],oo_ 3 (.mv .bad) []]) (.seq (.reg false [oo_ 4 (.load true 3 (.t 1)) [],oo_ 5 (.load true 3 (.t 2)) [],oo_ 6 (.call 105 [(.t 4),(.t 5)]) [0,1],om_ 3 6 [2,2,0,1,2]]) .ret))
theorem o_a0 : fnOf Tryz.prog o_9y = some (o_9z, [.t 3], 7, false) := by kernel_rfl

abbrev o_a1 : FuncId := 105
def o_a2 : C := (.seq (.reg false [oo_ 2 (.box 73 (.t 0)) [],oo_ 3 (.box 78 (.t 1)) [],oo_ 4 (.mv .bad) []]) (.seq (.seq (.reg false [oo_ 8 (.fa 0 (.t 2)) [],oo_ 9 (.load false 1 (.t 8)) [0],oo_ 10 (.bin .eql (.t 9) (.d (.int .i64 4)))
 [1]]) (.cond (.t 10) (.seq (.reg false [oo_ 11 (.load true 3 (.t 3)) [],oo_ 5 (.new 78 [(.int .i64 0),(.int .i64 0),(.bool false)]) [],on_ (.store 3 (.t 5) (.t 11)) [1,0,0,1]]) (.seq (.reg false [oo_ 12 (.fa 0 (.t 5))
 [],oo_ 13 (.load false 1 (.t 12)) [0],oo_ 14 (.bin .add (.t 13) (.d (.int .i64 1))) [1],oo_ 15 (.fa 0 (.t 5)) [0,1,2],on_ (.store 1 (.t 15) (.t 14)) [3,2,0,1,2]]) (.seq (.reg true [oo_ 16 (.fa 1 (.t 3)) [],oo_ 17 (.load
 false 1 (.t 16)) [0],oo_ 18 (.call 173 [(.t 17)]) [1],oo_ 19 (.load true 3 (.t 5)) [],oo_ 20 (.load true 3 (.t 3)) [],oo_ 21 (.call 172 [(.t 18),(.t 19),(.t 20)]) [2,3,4,2],oo_ 22 (.mkf (.func 174) [(.t 2)]) [],oo_ 23
 (.call 103 [(.t 21),(.t 22)]) [5,6,5],om_ 4 23 [7,7,0,1,2,3,4,5,6,7]]) .ret))) .skip)) (.seq (.reg true [oo_ 25 (.load true 3 (.t 2)) [],oo_ 26 (.call 176 [(.t 25)]) [0],oo_ 27 (.fa 0 (.t 3)) [],oo_ 28 (.load false 1
 (.t 27)) [2],oo_ 29 (.call 177 [(.t 26),(.t 28)]) [1,3,1],om_ 24 29 [4],oo_ 30 (.ext (.t 24) 0) [5],oo_ 31 (.ext (.t 24) 1) [5],oo_ 6 (.new 29 [.nilsl,(.bool false),.nilsl]) [],on_ (.store 3 (.t 6) (.t 30))
 [8,6,4,0,1,2,3,4,5,6,8],om_ 7 31 [7,9,0,1,2,3,4,5,6,7,8,9]]) (.seq (.reg false [oo_ 32 (.load true 3 (.t 2)) [],oo_ 33 (.load true 3 (.t 3)) [],oo_ 34 (.load true 3 (.t 6)) [],oo_ 35 (.call 178 [(.t 32),(.t 33),(.t
 34)]) [0,1,2],om_ 4 35 [3,3,0,1,2,3]]) .ret))))
theorem o_a3 : fnOf Tryz.prog o_a1 = some (o_a2, [.t 4], 36, false) := by kernel_rfl

abbrev o_a4 : FuncId := 106
def o_a5 : C := (.seq (.reg false [oo_ 2 (.mv (.d .nilsl)) []]) (.seq (.reg false [oo_ 3 (.mv (.d .nilsl)) []]) (.seq (.seq (.reg false [om_ 6 0 [],oo_ 7 (.mrng 1000391 6 (.t 6)) [0]]) (.block 0 (.loop (.seq (.reg false [oo_ 8 (.mnx
 (.t 7)) [],oo_ 9 (.ext (.t 8) 0) [0]]) (.seq (.cond (.t 9) .skip (.exit 0)) (.block 1 (.seq (.reg false [oo_ 10 (.mety (.t 7)) [],oo_ 11 (.ext (.t 10) 0) [0],oo_ 12 (.ext (.t 10) 1) [0],oo_ 4 (.new 78 [(.int .i64
 0),(.int .i64 0),(.bool false)]) [],oo_ 5 (.new 29 [.nilsl,(.bool false),.nilsl]) [],on_ (.store 3 (.t 4) (.t 11)) [3,1,0,1,3,4],on_ (.store 3 (.t 5) (.t 12)) [4,2,5,0,1,2,3,4,5]]) (.seq (.reg true [oo_ 13 (.load true 3
 (.t 5)) [],oo_ 14 (.call 21 [(.d (.int .i64 0))]) [],oo_ 15 (.call 22 [(.t 13),(.t 14)]) [0,1,1],oo_ 16 (.bin .neq (.t 15) (.d (.int .i64 0))) [2]]) (.cond (.t 16) (.reg false [om_ 17 3 [],oo_ 18 (.load true 3 (.t 4))
 [],oo_ 19 (.load true 3 (.t 5)) [],oo_ 20 (.build [(.int .i64 0),(.int .i64 0),(.bool false),.nilsl,(.bool false),.nilsl] [(0,3,(.t 18)),(3,3,(.t 19))]) [1,2],oo_ 21 (.bsl 91 6 1 [(.int .i64 0),(.int .i64 0),(.bool
 false),.nilsl,(.bool false),.nilsl] [(0,6,(.t 20))]) [3],oo_ 22 (.app 91 6 80 (.t 17) (.t 21)) [0,4],om_ 3 22 [5,5,0,1,2,3,4,5]]) .skip))))))))) (.seq (.reg false [om_ 23 3 [],oo_ 24 (.call 179 [(.t 23),(.fn 180)])
 [0]]) (.seq (.reg false [om_ 25 3 [],om_ 2 25 [0,0]]) .ret)))))
theorem o_a6 : fnOf Tryz.prog o_a4 = some (o_a5, [.t 2], 26, false) := by kernel_rfl

abbrev o_a7 : FuncId := 107
def o_a8 : C := (.seq (.reg false [oo_ 2 (.box 73 (.t 0)) [],oo_ 3 (.box 78 (.t 1)) [],oo_ 4 (.mv (.d (.bool false))) []]) (.seq (.seq (.reg false [oo_ 6 (.load true 3 (.t 2)) [],oo_ 7 (.call 169 [(.t 6)]) [0],oo_ 8 (.bin .neq (.t 7)
 (.d (.int .i64 0))) [1]]) (.cond (.t 8) (.seq (.reg false [oo_ 4 (.mv (.d (.bool false))) []]) .ret) .skip)) (.seq (.seq (.reg false [oo_ 9 (.fa 0 (.t 2)) [],oo_ 10 (.load false 1 (.t 9)) [0],oo_ 11 (.bin .eql (.t 10)
 (.d (.int .i64 4))) [1]]) (.cond (.t 11) (.seq (.reg true [oo_ 12 (.load true 3 (.t 2)) [],oo_ 13 (.call 124 [(.t 12)]) [0],oo_ 14 (.load true 3 (.t 3)) [],oo_ 15 (.call 126 [(.t 14)]) [2,1],oo_ 16 (.call 181 [(.t
 13),(.t 15)]) [1,3,3],om_ 4 16 [4,4,0,1,2,3,4]]) .ret) .skip)) (.seq (.reg false [oo_ 17 (.load true 3 (.t 2)) [],oo_ 18 (.call 128 [(.t 17)]) [0],oo_ 19 (.call 87 [(.t 18)]) [1,1],om_ 5 19 [2,2,0,1,2]]) (.seq (.reg
 false [oo_ 20 (.fa 1 (.t 3)) [],oo_ 21 (.load false 1 (.t 20)) [0],oo_ 22 (.bin .eql (.t 21) (.d (.int .i64 0))) [1],om_ 23 22 [2],og_ 24 (.fa 0 (.t 3)) 23 true [3],og_ 25 (.load false 1 (.t 24)) 23 true [4,3],og_ 26
 (.bin .geq (.t 25) (.d (.int .i64 0))) 23 true [5,3],oo_ 27 (.pick (.t 23) (.t 26) (.d (.bool false))) [3,6],om_ 28 27 [7,3],og_ 29 (.fa 0 (.t 3)) 28 true [8],og_ 30 (.load false 1 (.t 29)) 28 true [9,8],og_ 31 (.mv (.t
 5)) 28 true [8],og_ 32 (.bin .leq (.t 30) (.t 31)) 28 true [10,11,8],oo_ 33 (.pick (.t 28) (.t 32) (.d (.bool false))) [8,12],om_ 34 33 [13,8],og_ 35 (.fa 2 (.t 3)) 34 true [14],og_ 36 (.load false 1 (.t 35)) 34 true
 [15,14],og_ 37 (.un .not (.t 36)) 34 true [16,14],og_ 38 (.mv (.t 37)) 34 true [17,14,14],og_ 39 (.fa 0 (.t 3)) 38 false [18],og_ 40 (.load false 1 (.t 39)) 38 false [19,18],og_ 41 (.mv (.t 5)) 38 false [18],og_ 42
 (.bin .eql (.t 40) (.t 41)) 38 false [20,21,18],og_ 43 (.pick (.t 38) (.d (.bool true)) (.t 42)) 34 true [18,22,14],oo_ 44 (.pick (.t 34) (.t 43) (.d (.bool false))) [14,23],om_ 4 44
 [24,18,0,1,2,3,4,5,6,7,8,9,10,11,12,13,14,15,16,17,18,19,20,21,22,23,24]]) .ret)))))
theorem o_a9 : fnOf Tryz.prog o_a7 = some (o_a8, [.t 4], 45, false) := by kernel_rfl

abbrev o_aa : FuncId := 108
def o_ab : C := (.seq (.reg false [oo_ 2 (.box 73 (.t 0)) [],oo_ 4 (.mv (.d (.int .i64 0))) []]) (.seq (.seq (.reg false [oo_ 6 (.load true 3 (.t 2)) [],om_ 7 1 [],oo_ 8 (.call 100 [(.t 6),(.t 7)]) [0,1],om_ 5 8 [2,2,0,1,2]]) (.seq
 (.reg false [om_ 9 5 [],oo_ 10 (.bin .neq (.t 9) (.d (.int .i64 0))) [0]]) (.cond (.t 10) (.seq (.reg false [om_ 11 5 [],om_ 4 11 [0,0]]) .ret) .skip))) (.seq (.seq (.reg false [oo_ 12 (.load true 3 (.t 2)) [],oo_ 13
 (.call 101 [(.t 12)]) [0],oo_ 14 (.bin .mul (.d (.int .i64 4)) (.t 13)) [1],oo_ 15 (.bin .gtr (.t 14) (.d (.int .i64 512))) [2]]) (.cond (.t 15) (.seq (.reg false [oo_ 4 (.mv (.d (.int .i64 12))) []]) .ret) .skip))
 (.seq (.reg false [oo_ 4 (.mv (.d (.int .i64 0))) []]) .ret))))
theorem o_ac : fnOf Tryz.prog o_aa = some (o_ab, [.t 4], 16, false) := by kernel_rfl

abbrev o_ad : FuncId := 109
def o_ae : C := (.seq (.reg false [oo_ 3 (.box 73 (.t 0)) [],oo_ 4 (.box 78 (.t 1)) [],oo_ 5 (.box 78 (.t 2)) [],oo_ 6 (.mv .bad) []]) (.seq (.seq (.reg false [oo_ 14 (.fa 0 (.t 3)) [],oo_ 15 (.load false 1 (.t 14)) [0],oo_ 16 (.bin
 .neq (.t 15) (.d (.int .i64 4))) [1]]) (.cond (.t 16) (.seq (.reg false [oo_ 17 (.load true 3 (.t 3)) [],oo_ 18 (.load true 3 (.t 4)) [],oo_ 19 (.load true 3 (.t 5)) [],oo_ 20 (.call 182 [(.t 17),(.t 18),(.t 19)])
 [0,1,2],om_ 6 20 [3,3,0,1,2,3]]) .ret) .skip)) (.seq (.reg true [oo_ 21 (.load true 3 (.t 4)) [],oo_ 22 (.fa 1 (.t 5)) [],oo_ 23 (.load false 1 (.t 22)) [1],oo_ 24 (.fa 1 (.t 4)) [],oo_ 25 (.load false 1 (.t 24))
 [3],oo_ 26 (.bin .sub (.t 23) (.t 25)) [2,4],oo_ 27 (.call 183 [(.t 21),(.t 26)]) [0,5],oo_ 28 (.load true 3 (.t 5)) [],oo_ 29 (.fa 1 (.t 4)) [],oo_ 30 (.load false 1 (.t 29)) [8],oo_ 31 (.fa 1 (.t 5)) [],oo_ 32 (.load
 false 1 (.t 31)) [10],oo_ 33 (.bin .sub (.t 30) (.t 32)) [9,11],oo_ 34 (.call 183 [(.t 28),(.t 33)]) [7,12,6],om_ 7 27 [6,13,0,1,2,3,4,5,6],om_ 8 34 [13,14,0,1,2,3,4,5,6,7,8,9,10,11,12,13,14]]) (.seq (.reg false [oo_ 35
 (.mkm 1000391) [],om_ 9 35 [0,0]]) (.seq (.seq (.reg false [om_ 36 7 [],oo_ 37 (.call 106 [(.t 36)]) [0],oo_ 38 (.len (.t 37)) [1],oo_ 39 (.mv (.d (.int .i64 0))) []]) (.block 0 (.loop (.seq (.reg false [oo_ 40 (.bin
 .lss (.t 39) (.t 38)) []]) (.seq (.cond (.t 40) .skip (.exit 0)) (.seq (.block 1 (.seq (.reg false [oo_ 41 (.ix 6 (.t 37) (.t 39)) [],oo_ 42 (.load true 6 (.t 41)) [0],oo_ 11 (.new 91 [(.int .i64 0),(.int .i64 0),(.bool
 false),.nilsl,(.bool false),.nilsl]) [],on_ (.store 6 (.t 11) (.t 42)) [2,1,0,1,2]]) (.seq (.reg false [om_ 43 8 [],oo_ 44 (.call 106 [(.t 43)]) [0],oo_ 45 (.len (.t 44)) [1],oo_ 46 (.mv (.d (.int .i64 0))) []]) (.block
 2 (.loop (.seq (.reg false [oo_ 47 (.bin .lss (.t 46) (.t 45)) []]) (.seq (.cond (.t 47) .skip (.exit 2)) (.seq (.block 3 (.seq (.reg false [oo_ 48 (.ix 6 (.t 44) (.t 46)) [],oo_ 49 (.load true 6 (.t 48)) [0],oo_ 13
 (.new 91 [(.int .i64 0),(.int .i64 0),(.bool false),.nilsl,(.bool false),.nilsl]) [],on_ (.store 6 (.t 13) (.t 49)) [2,1,0,1,2]]) (.reg true [om_ 50 9 [],oo_ 51 (.fa 0 (.t 11)) [],oo_ 52 (.fa 0 (.t 51)) [1],oo_ 53
 (.load false 1 (.t 52)) [2],oo_ 54 (.fa 0 (.t 13)) [],oo_ 55 (.fa 0 (.t 54)) [4],oo_ 56 (.load false 1 (.t 55)) [5],oo_ 57 (.bin .add (.t 53) (.t 56)) [3,6],oo_ 58 (.fa 0 (.t 11)) [],oo_ 59 (.fa 1 (.t 58)) [8],oo_ 60
 (.load false 1 (.t 59)) [9],oo_ 61 (.fa 2 (.t 4)) [],oo_ 62 (.load false 1 (.t 61)) [11],om_ 63 62 [12],og_ 64 (.fa 2 (.t 5)) 63 false [13],og_ 65 (.load false 1 (.t 64)) 63 false [14,13],oo_ 66 (.pick (.t 63) (.d
 (.bool true)) (.t 65)) [13,15],oo_ 67 (.build [(.int .i64 0),(.int .i64 0),(.bool false)] [(0,1,(.t 57)),(1,1,(.t 60)),(2,1,(.t 66))]) [7,10,16],oo_ 68 (.fa 3 (.t 11)) [],oo_ 69 (.load true 3 (.t 68)) [18],oo_ 70 (.fa 3
 (.t 13)) [],oo_ 71 (.load true 3 (.t 70)) [20],oo_ 72 (.call 54 [(.t 69),(.t 71)]) [19,21,13],oo_ 73 (.call 114 [(.t 50),(.t 67),(.t 72)]) [0,17,22,22]]))) (.reg false [oo_ 74 (.bin .add (.t 46) (.d (.int .i64 1)))
 [],om_ 46 74 [0]]))))))))) (.reg false [oo_ 75 (.bin .add (.t 39) (.d (.int .i64 1))) [],om_ 39 75 [0]]))))))) (.seq (.reg false [om_ 76 9 [],oo_ 77 (.mkf (.func 184) [(.t 3)]) [],oo_ 78 (.call 103 [(.t 76),(.t 77)])
 [0,1],om_ 6 78 [2,2,0,1,2]]) .ret))))))
theorem o_af : fnOf Tryz.prog o_ad = some (o_ae, [.t 6], 79, false) := by kernel_rfl

abbrev o_ag : FuncId := 113
def o_ah : C := (.seq (.reg false [oo_ 2 (.mv (.d .nilsl)) []]) (.seq (.reg false [oo_ 3 (.mv (.d (.int .i64 0))) []]) (.seq (.seq (.reg false [om_ 9 0 [],oo_ 10 (.len (.t 9)) [0],oo_ 11 (.mv (.d (.int .i64 0))) []]) (.block 0 (.loop
 (.seq (.reg false [oo_ 12 (.bin .lss (.t 11) (.t 10)) []]) (.seq (.cond (.t 12) .skip (.exit 0)) (.seq (.block 1 (.seq (.reg false [oo_ 13 (.ix 1 (.t 9) (.t 11)) [],oo_ 14 (.load false 1 (.t 13)) [0],om_ 5 14 [1,0,1]])
 (.seq (.reg false [om_ 15 3 [],om_ 16 5 [],oo_ 17 (.len (.t 16)) [1],oo_ 18 (.bin .add (.t 15) (.t 17)) [0,2],om_ 3 18 [3,0,1,2,3]]) (.seq (.reg false [om_ 19 3 [],oo_ 20 (.bin .lss (.t 19) (.d (.int .i64 0))) [0]])
 (.cond (.t 20) (.reg false [⟨some 21,.ifc 9 (.d (.str ⟨#[108,101,110,32,111,117,116,32,111,102,32,114,97,110,103,101]⟩)),none,[]⟩,on_ (.bad) [0]]) .skip))))) (.reg false [oo_ 22 (.bin .add (.t 11) (.d (.int .i64 1)))
 [],om_ 11 22 [0]]))))))) (.seq (.reg false [om_ 23 3 [],oo_ 24 (.call 185 [(.d .nilsl),(.t 23)]) [0],om_ 6 24 [1,1,0,1]]) (.seq (.seq (.reg false [om_ 25 0 [],oo_ 26 (.len (.t 25)) [0],oo_ 27 (.mv (.d (.int .i64 0)))
 []]) (.block 2 (.loop (.seq (.reg false [oo_ 28 (.bin .lss (.t 27) (.t 26)) []]) (.seq (.cond (.t 28) .skip (.exit 2)) (.seq (.block 3 (.seq (.reg false [oo_ 29 (.ix 1 (.t 25) (.t 27)) [],oo_ 30 (.load false 1 (.t 29))
 [0],om_ 8 30 [1,0,1]]) (.reg false [om_ 31 6 [],om_ 32 8 [],oo_ 33 (.app 91 6 80 (.t 31) (.t 32)) [0,1],om_ 6 33 [2,2,0,1,2]]))) (.reg false [oo_ 34 (.bin .add (.t 27) (.d (.int .i64 1))) [],om_ 27 34 [0]]))))))) (.seq
 (.reg false [om_ 35 6 [],om_ 2 35 [0,0]]) .ret))))))
theorem o_ai : fnOf Tryz.prog o_ag = some (o_ah, [.t 2], 36, false) := by kernel_rfl

abbrev o_aj : FuncId := 114
def o_ak : C := (.seq (.reg false [oo_ 4 (.box 78 (.t 1)) [],oo_ 5 (.box 29 (.t 2)) []]) (.reg true [om_ 6 0 [],oo_ 7 (.load true 3 (.t 4)) [],om_ 8 0 [],oo_ 9 (.load true 3 (.t 4)) [],oo_ 10 (.mget 1000391 [0,0,1] 3 true
 [.nilsl,(.bool false),.nilsl] (.t 8) (.t 9)) [2,3],oo_ 11 (.load true 3 (.t 5)) [],oo_ 12 (.call 23 [(.t 10),(.t 11)]) [4,5],on_ (.mput 1000391 [0,0,1] 3 true (.t 6) (.t 7) (.t 12)) [0,1,6,6,0,1,2,3,4,5,6]]))
theorem o_al : fnOf Tryz.prog o_aj = some (o_ak, [], 13, false) := by kernel_rfl

abbrev o_am : FuncId := 121
def o_an : C := (.seq (.reg false [oo_ 1 (.box 27 (.t 0)) [],oo_ 2 (.new 27 [.nilsl,(.bool false)]) []]) (.seq (.reg false [oo_ 3 (.fa 1 (.t 1)) [],oo_ 4 (.load false 1 (.t 3)) [0],oo_ 5 (.un .not (.t 4)) [1],oo_ 6 (.fa 0 (.t 1))
 [],oo_ 7 (.load true 1 (.t 6)) [3],oo_ 8 (.call 135 [(.t 5),(.t 7)]) [2,4],on_ (.store 2 (.t 2) (.t 8)) [5,5,0,1,2,3,4,5]]) .ret))
theorem o_ao : fnOf Tryz.prog o_am = some (o_an, [.cell 2 true 2], 9, false) := by kernel_rfl

abbrev o_ap : FuncId := 124
def o_aq : C := (.seq (.reg false [oo_ 1 (.box 73 (.t 0)) [],oo_ 2 (.new 180 [(.int .i64 0),(.int .i64 0)]) []]) (.seq (.reg false [oo_ 3 (.fa 1 (.t 1)) [],oo_ 4 (.load false 1 (.t 3)) [0],oo_ 5 (.fa 2 (.t 1)) [],oo_ 6 (.load false 1
 (.t 5)) [2],oo_ 7 (.build [(.int .i64 0),(.int .i64 0)] [(0,1,(.t 4)),(1,1,(.t 6))]) [1,3],on_ (.store 2 (.t 2) (.t 7)) [4,0,1,2,3,4]]) .ret))
theorem o_ar : fnOf Tryz.prog o_ap = some (o_aq, [.cell 2 true 2], 8, false) := by kernel_rfl

abbrev o_as : FuncId := 126
def o_at : C := (.seq (.reg false [oo_ 1 (.box 78 (.t 0)) [],oo_ 2 (.new 178 [(.int .i64 0),(.int .i64 0),(.bool false)]) []]) (.seq (.reg false [oo_ 3 (.fa 0 (.t 1)) [],oo_ 4 (.load false 1 (.t 3)) [0],oo_ 5 (.fa 1 (.t 1)) [],oo_ 6
 (.load false 1 (.t 5)) [2],oo_ 7 (.fa 2 (.t 1)) [],oo_ 8 (.load false 1 (.t 7)) [4],oo_ 9 (.build [(.int .i64 0),(.int .i64 0),(.bool false)] [(0,1,(.t 4)),(1,1,(.t 6)),(2,1,(.t 8))]) [1,3,5],on_ (.store 3 (.t 2) (.t
 9)) [6,0,1,2,3,4,5,6]]) .ret))
theorem o_au : fnOf Tryz.prog o_as = some (o_at, [.cell 2 true 3], 10, false) := by kernel_rfl

abbrev o_av : FuncId := 128
def o_aw : C := (.seq (.reg false [oo_ 1 (.box 73 (.t 0)) [],oo_ 2 (.new 52 [(.int .i64 0),(.int .i64 0),(.int .i64 0)]) []]) (.seq (.reg false [oo_ 3 (.fa 0 (.t 1)) [],oo_ 4 (.load false 1 (.t 3)) [0],oo_ 5 (.fa 1 (.t 1)) [],oo_ 6
 (.load false 1 (.t 5)) [2],oo_ 7 (.fa 2 (.t 1)) [],oo_ 8 (.load false 1 (.t 7)) [4],oo_ 9 (.build [(.int .i64 0),(.int .i64 0),(.int .i64 0)] [(0,1,(.t 4)),(1,1,(.t 6)),(2,1,(.t 8))]) [1,3,5],on_ (.store 3 (.t 2) (.t
 9)) [6,0,1,2,3,4,5,6]]) .ret))
theorem o_ax : fnOf Tryz.prog o_av = some (o_aw, [.cell 2 true 3], 10, false) := by kernel_rfl

abbrev o_ay : FuncId := 133
def o_az : C := (.seq (.reg false [oo_ 2 (.box 25 (.t 0)) [],oo_ 4 (.new 25 [.nilsl]) [],oo_ 5 (.mv (.d (.int .i64 0))) []]) (.seq (.block 0 (.seq (.reg false [om_ 8 1 [],oo_ 9 (.bin .lss (.t 8) (.d (.int .i64 0))) [0],om_ 7 9 [1]])
 (.cond (.t 7) (.seq (.reg false [oo_ 10 (.build [.nilsl] []) [],on_ (.store 1 (.t 4) (.t 10)) [0,0],oo_ 5 (.mv (.d (.int .i64 2))) [1,0,1]]) .ret) (.seq (.reg false [oo_ 12 (.load true 1 (.t 2)) [],oo_ 13 (.call 191
 [(.t 12)]) [0],oo_ 14 (.bin .gtr (.t 13) (.d (.int .i64 1))) [1],om_ 15 14 [2,1],og_ 16 (.mv (.t 1)) 15 true [3],og_ 17 (.load true 1 (.t 2)) 15 true [3],og_ 18 (.call 191 [(.t 17)]) 15 true [5,3,3],og_ 19 (.bin .quo
 (.d (.int .i64 8192)) (.t 18)) 15 true [6,3],og_ 20 (.bin .gtr (.t 16) (.t 19)) 15 true [4,7,3],oo_ 21 (.pick (.t 15) (.t 20) (.d (.bool false))) [3,8],om_ 11 21 [9,6]]) (.cond (.t 11) (.seq (.reg false [oo_ 22 (.build
 [.nilsl] []) [],on_ (.store 1 (.t 4) (.t 22)) [0,0],oo_ 5 (.mv (.d (.int .i64 3))) [1,0,1]]) .ret) .skip))))) (.seq (.reg false [oo_ 23 (.bsl 194 1 1 [(.int .u64 0)] [(0,1,(.d (.int .u64 1)))]) [],oo_ 24 (.call 139 [(.t
 23)]) [0],oo_ 6 (.new 25 [.nilsl]) [],on_ (.store 1 (.t 6) (.t 24)) [2,1,1,0,1,2]]) (.seq (.seq (.reg false [oo_ 25 (.load true 1 (.t 2)) [],oo_ 26 (.call 191 [(.t 25)]) [0],oo_ 27 (.bin .leq (.t 26) (.d (.int .i64 1)))
 [1]]) (.cond (.t 27) (.reg false [om_ 28 1 [],oo_ 29 (.mm false [(.t 28),(.d (.int .i64 1))]) [0],om_ 1 29 [1,0,1]]) .skip)) (.seq (.block 1 (.loop (.seq (.seq (.reg false [om_ 30 1 [],oo_ 31 (.bin .gtr (.t 30) (.d
 (.int .i64 0))) [0]]) (.cond (.t 31) .skip (.exit 1))) (.seq (.block 2 (.seq (.seq (.reg false [om_ 34 1 [],oo_ 35 (.bin .and (.t 34) (.d (.int .i64 1))) [0],oo_ 36 (.bin .eql (.t 35) (.d (.int .i64 1))) [1]]) (.cond
 (.t 36) (.reg false [oo_ 37 (.load true 1 (.t 6)) [],oo_ 38 (.load true 1 (.t 2)) [],oo_ 39 (.call 76 [(.t 37),(.t 38)]) [0,1],on_ (.store 1 (.t 6) (.t 39)) [2,2,0,1,2]]) .skip)) (.reg false [oo_ 40 (.load true 1 (.t
 2)) [],oo_ 41 (.load true 1 (.t 2)) [],oo_ 42 (.call 76 [(.t 40),(.t 41)]) [0,1],on_ (.store 1 (.t 2) (.t 42)) [2,2,0,1,2]]))) (.reg false [om_ 32 1 [],oo_ 33 (.bin .shr (.t 32) (.d (.int .u64 1))) [0],om_ 1 33
 [1,0,1]]))))) (.seq (.reg false [oo_ 43 (.load true 1 (.t 6)) [],on_ (.store 1 (.t 4) (.t 43)) [0,0],oo_ 5 (.mv (.d (.int .i64 0))) [1,0,1]]) .ret))))))
theorem o_b0 : fnOf Tryz.prog o_ay = some (o_az, [.cell 4 true 1, .t 5], 44, false) := by kernel_rfl

abbrev o_b1 : FuncId := 134
def o_b2 : C := (.seq (.reg false [oo_ 1 (.box 27 (.t 0)) [],oo_ 2 (.new 25 [.nilsl]) []]) (.seq (.reg false [oo_ 3 (.fa 0 (.t 1)) [],oo_ 4 (.load true 1 (.t 3)) [0],on_ (.store 1 (.t 2) (.t 4)) [1,0,1]]) .ret))
theorem o_b3 : fnOf Tryz.prog o_b1 = some (o_b2, [.cell 2 true 1], 5, false) := by kernel_rfl

abbrev o_b4 : FuncId := 135
def o_b5 : C := (.seq (.reg false [oo_ 3 (.box 25 (.t 1)) [],oo_ 4 (.new 27 [.nilsl,(.bool false)]) []]) (.seq (.reg true [oo_ 5 (.load true 1 (.t 3)) [],om_ 6 0 [],om_ 7 6 [1],og_ 8 (.load true 1 (.t 3)) 7 true [2],og_ 9 (.call 137
 [(.t 8)]) 7 true [3,2,2],og_ 10 (.un .not (.t 9)) 7 true [4,2],oo_ 11 (.pick (.t 7) (.t 10) (.d (.bool false))) [2,5],oo_ 12 (.build [.nilsl,(.bool false)] [(0,1,(.t 5)),(1,1,(.t 11))]) [0,6],on_ (.store 2 (.t 4) (.t
 12)) [7,4,0,1,2,3,4,5,6,7]]) .ret))
theorem o_b6 : fnOf Tryz.prog o_b4 = some (o_b5, [.cell 4 true 2], 13, false) := by kernel_rfl

abbrev o_b7 : FuncId := 136
def o_b8 : C := (.seq (.reg false [oo_ 1 (.box 27 (.t 0)) [],oo_ 2 (.mv (.d (.bool false))) []]) (.seq (.reg false [oo_ 3 (.fa 1 (.t 1)) [],oo_ 4 (.load false 1 (.t 3)) [0],om_ 2 4 [1,0,1]]) .ret))
theorem o_b9 : fnOf Tryz.prog o_b7 = some (o_b8, [.t 2], 5, false) := by kernel_rfl

abbrev o_ba : FuncId := 137
def o_bb : C := (.seq (.reg false [oo_ 1 (.box 25 (.t 0)) [],oo_ 2 (.mv (.d (.bool false))) []]) (.seq (.reg false [oo_ 3 (.fa 0 (.t 1)) [],oo_ 4 (.load false 1 (.t 3)) [0],oo_ 5 (.len (.t 4)) [1],oo_ 6 (.bin .eql (.t 5) (.d (.int .i64
 0))) [2],om_ 2 6 [3,0,1,2,3]]) .ret))
theorem o_bc : fnOf Tryz.prog o_ba = some (o_bb, [.t 2], 7, false) := by kernel_rfl

abbrev o_bd : FuncId := 138
def o_be : C := (.seq (.reg false [oo_ 2 (.box 25 (.t 0)) [],oo_ 3 (.box 25 (.t 1)) [],oo_ 4 (.new 25 [.nilsl]) []]) (.seq (.seq (.reg false [oo_ 10 (.fa 0 (.t 2)) [],oo_ 11 (.load false 1 (.t 10)) [0],oo_ 12 (.len (.t 11)) [1],oo_ 13
 (.fa 0 (.t 3)) [],oo_ 14 (.load false 1 (.t 13)) [3],oo_ 15 (.len (.t 14)) [4],oo_ 16 (.bin .lss (.t 12) (.t 15)) [2,5]]) (.cond (.t 16) (.reg false [oo_ 17 (.load true 1 (.t 3)) [],oo_ 18 (.load true 1 (.t 2)) [],on_
 (.store 1 (.t 2) (.t 17)) [0,0,1],on_ (.store 1 (.t 3) (.t 18)) [1,2,0,1,2]]) .skip)) (.seq (.reg false [oo_ 19 (.fa 0 (.t 2)) [],oo_ 20 (.load false 1 (.t 19)) [0],oo_ 21 (.len (.t 20)) [1],oo_ 22 (.bin .add (.t 21)
 (.d (.int .i64 1))) [2],oo_ 23 (.mksl 194 1 8 [(.int .u64 0)] (.t 22) (.t 22)) [3,3],om_ 5 23 [4,0,1,2,3,4]]) (.seq (.reg false [oo_ 6 (.mv (.d (.int .u64 0))) []]) (.seq (.seq (.reg false [oo_ 24 (.fa 0 (.t 2)) [],oo_
 25 (.load false 1 (.t 24)) [0],oo_ 26 (.len (.t 25)) [1],oo_ 27 (.mv (.d (.int .i64 0))) []]) (.block 0 (.loop (.seq (.reg false [oo_ 28 (.bin .lss (.t 27) (.t 26)) []]) (.seq (.cond (.t 28) .skip (.exit 0)) (.seq
 (.block 1 (.seq (.reg false [om_ 29 27 [],oo_ 30 (.ix 1 (.t 25) (.t 27)) [],oo_ 31 (.load false 1 (.t 30)) [1],om_ 7 29 [0,0,1,2],om_ 8 31 [2,3,0,1,2,3]]) (.seq (.reg false [oo_ 9 (.mv (.d (.int .u64 0))) []]) (.seq
 (.seq (.reg false [om_ 32 7 [],oo_ 33 (.fa 0 (.t 3)) [],oo_ 34 (.load false 1 (.t 33)) [1],oo_ 35 (.len (.t 34)) [2],oo_ 36 (.bin .lss (.t 32) (.t 35)) [0,3]]) (.cond (.t 36) (.reg false [oo_ 37 (.fa 0 (.t 3)) [],oo_ 38
 (.load false 1 (.t 37)) [0],om_ 39 7 [],oo_ 40 (.ix 1 (.t 38) (.t 39)) [1,2],oo_ 41 (.load false 1 (.t 40)) [3],om_ 9 41 [4,0,1,2,3,4]]) .skip)) (.reg false [om_ 43 5 [],om_ 44 7 [],om_ 45 8 [],om_ 46 9 [],om_ 47 6
 [],oo_ 48 (.call 149 [(.t 45),(.t 46),(.t 47)]) [2,3,4],om_ 42 48 [5],oo_ 49 (.ext (.t 42) 0) [6],oo_ 50 (.ext (.t 42) 1) [6],oo_ 51 (.ix 1 (.t 43) (.t 44)) [0,1,0,1,2,3,4,5,6,7],on_ (.store 1 (.t 51) (.t 49))
 [9,7,5,0,1,2,3,4,5,6,7],om_ 6 50 [8,10,0,1,2,3,4,5,6,7,8,9,10]]))))) (.reg false [oo_ 52 (.bin .add (.t 27) (.d (.int .i64 1))) [],om_ 27 52 [0]]))))))) (.seq (.reg false [om_ 53 5 [],oo_ 54 (.fa 0 (.t 2)) [],oo_ 55
 (.load false 1 (.t 54)) [1],oo_ 56 (.len (.t 55)) [2],om_ 57 6 [],oo_ 58 (.ix 1 (.t 53) (.t 56)) [0,3,0,1,2,3,4],on_ (.store 1 (.t 58) (.t 57)) [5,4,0,1,2,3,4]]) (.seq (.reg false [om_ 59 5 [],oo_ 60 (.call 141 [(.t
 59)]) [0],on_ (.store 1 (.t 4) (.t 60)) [1,1,0,1]]) .ret)))))))
theorem o_bf : fnOf Tryz.prog o_bd = some (o_be, [.cell 4 true 1], 61, false) := by kernel_rfl

abbrev o_bg : FuncId := 139
def o_bh : C := (.seq (.reg false [oo_ 2 (.new 25 [.nilsl]) []]) (.seq (.reg false [om_ 3 0 [],oo_ 4 (.call 192 [(.t 3)]) [0],oo_ 5 (.call 141 [(.t 4)]) [1,1],on_ (.store 1 (.t 2) (.t 5)) [2,2,0,1,2]]) .ret))
theorem o_bi : fnOf Tryz.prog o_bg = some (o_bh, [.cell 2 true 1], 6, false) := by kernel_rfl

abbrev o_bj : FuncId := 140
def o_bk : C := (.seq (.reg false [oo_ 4 (.mv (.d .nilsl)) [],oo_ 5 (.mv (.d (.int .u64 0))) [0]]) (.seq (.reg false [om_ 9 0 [],oo_ 10 (.len (.t 9)) [0],oo_ 11 (.mksl 194 1 8 [(.int .u64 0)] (.t 10) (.t 10)) [1,1],om_ 6 11 [2,0,1,2]])
 (.seq (.reg false [oo_ 7 (.mv (.d (.int .u64 0))) []]) (.seq (.seq (.reg false [om_ 12 0 [],oo_ 13 (.len (.t 12)) [0],oo_ 14 (.bin .sub (.t 13) (.d (.int .i64 1))) [1],om_ 8 14 [2,0,1,2]]) (.block 0 (.loop (.seq (.seq
 (.reg false [om_ 15 8 [],oo_ 16 (.bin .geq (.t 15) (.d (.int .i64 0))) [0]]) (.cond (.t 16) .skip (.exit 0))) (.seq (.block 1 (.reg false [om_ 20 6 [],om_ 21 8 [],om_ 22 7 [],om_ 23 0 [],om_ 24 8 [],oo_ 25 (.ix 1 (.t
 23) (.t 24)) [3,4],oo_ 26 (.load false 1 (.t 25)) [5],om_ 27 1 [],oo_ 28 (.call 193 [(.t 22),(.t 26),(.t 27)]) [2,6,7],om_ 19 28 [8],oo_ 29 (.ext (.t 19) 0) [9],oo_ 30 (.ext (.t 19) 1) [9],oo_ 31 (.ix 1 (.t 20) (.t 21))
 [0,1,0,1,2,3,4,5,6,7,8,9,10],on_ (.store 1 (.t 31) (.t 29)) [12,10,8,0,1,2,3,4,5,6,7,8,9,10],om_ 7 30 [11,13,0,1,2,3,4,5,6,7,8,9,10,11,12,13]])) (.reg false [om_ 17 8 [],oo_ 18 (.bin .sub (.t 17) (.d (.int .i64 1)))
 [0],om_ 8 18 [1,0,1]])))))) (.seq (.reg false [om_ 32 6 [],om_ 33 7 [],om_ 4 32 [0,0],om_ 5 33 [1,2,0,1,2]]) .ret)))))
theorem o_bl : fnOf Tryz.prog o_bj = some (o_bk, [.t 4, .t 5], 34, false) := by kernel_rfl

abbrev o_bm : FuncId := 141
def o_bn : C := (.seq (.reg false [oo_ 2 (.new 25 [.nilsl]) []]) (.seq (.reg false [om_ 4 0 [],oo_ 5 (.len (.t 4)) [0],om_ 3 5 [1,0,1]]) (.seq (.block 0 (.loop (.seq (.seq (.reg false [om_ 6 3 [],oo_ 7 (.bin .gtr (.t 6) (.d (.int .i64
 0))) [0],om_ 8 7 [1],og_ 9 (.mv (.t 0)) 8 true [2],og_ 10 (.mv (.t 3)) 8 true [2],og_ 11 (.bin .sub (.t 10) (.d (.int .i64 1))) 8 true [4,2],og_ 12 (.ix 1 (.t 9) (.t 11)) 8 true [3,5,2],og_ 13 (.load false 1 (.t 12)) 8
 true [6,2],og_ 14 (.bin .eql (.t 13) (.d (.int .u64 0))) 8 true [7,2],oo_ 15 (.pick (.t 8) (.t 14) (.d (.bool false))) [2,8]]) (.cond (.t 15) .skip (.exit 0))) (.block 1 (.reg false [om_ 16 3 [],oo_ 17 (.bin .sub (.t
 16) (.d (.int .i64 1))) [0],om_ 3 17 [1,0,1]]))))) (.seq (.reg false [om_ 18 0 [],om_ 19 3 [],oo_ 20 (.slice 1 (.t 18) none (some (.t 19)) none) [0,1],oo_ 21 (.build [.nilsl] [(0,1,(.t 20))]) [2],on_ (.store 1 (.t 2)
 (.t 21)) [3,0,1,2,3]]) .ret))))
theorem o_bo : fnOf Tryz.prog o_bm = some (o_bn, [.cell 2 true 1], 22, false) := by kernel_rfl

abbrev o_bp : FuncId := 142
def o_bq : C := (.seq (.reg false [⟨some 4,.mv (.d (.str ⟨#[]⟩)),none,[]⟩]) (.seq (.reg false [om_ 5 0 [],om_ 6 1 [],oo_ 7 (.call 194 [(.t 5),(.t 6)]) [0,1],om_ 4 7 [2,2,0,1,2]]) .ret))
theorem o_br : fnOf Tryz.prog o_bp = some (o_bq, [.t 4], 8, false) := by kernel_rfl

abbrev o_bs : FuncId := 144
def o_bt : C := (.seq (.reg false [oo_ 2 (.box 25 (.t 0)) [],oo_ 3 (.box 25 (.t 1)) [],oo_ 4 (.mv (.d (.int .i64 0))) []]) (.seq (.seq (.reg false [oo_ 9 (.fa 0 (.t 2)) [],oo_ 10 (.load false 1 (.t 9)) [0],oo_ 11 (.len (.t 10)) [1],oo_
 12 (.fa 0 (.t 3)) [],oo_ 13 (.load false 1 (.t 12)) [3],oo_ 14 (.len (.t 13)) [4],oo_ 15 (.bin .sub (.t 11) (.t 14)) [2,5],om_ 5 15 [6,0,1,2,3,4,5,6]]) (.seq (.reg false [om_ 16 5 [],oo_ 17 (.bin .neq (.t 16) (.d (.int
 .i64 0))) [0]]) (.cond (.t 17) (.seq (.reg false [om_ 18 5 [],oo_ 19 (.mm false [(.t 18),(.d (.int .i64 1))]) [0],oo_ 20 (.mm true [(.d (.int .i64 (-1))),(.t 19)]) [1],om_ 4 20 [2,0,1,2]]) .ret) .skip))) (.seq (.seq
 (.reg false [oo_ 21 (.fa 0 (.t 2)) [],oo_ 22 (.load false 1 (.t 21)) [0],oo_ 23 (.len (.t 22)) [1],oo_ 24 (.bin .sub (.t 23) (.d (.int .i64 1))) [2],om_ 6 24 [3,0,1,2,3]]) (.block 0 (.loop (.seq (.seq (.reg false [om_
 25 6 [],oo_ 26 (.bin .geq (.t 25) (.d (.int .i64 0))) [0]]) (.cond (.t 26) .skip (.exit 0))) (.seq (.block 1 (.seq (.reg true [oo_ 29 (.fa 0 (.t 2)) [],oo_ 30 (.load false 1 (.t 29)) [0],om_ 31 6 [],oo_ 32 (.ix 1 (.t
 30) (.t 31)) [1,2],oo_ 33 (.load false 1 (.t 32)) [3],oo_ 34 (.fa 0 (.t 3)) [],oo_ 35 (.load false 1 (.t 34)) [5],om_ 36 6 [],oo_ 37 (.ix 1 (.t 35) (.t 36)) [6,7],oo_ 38 (.load false 1 (.t 37)) [8],om_ 7 33
 [4,0,1,2,3,4],om_ 8 38 [9,10,0,1,2,3,4,5,6,7,8,9,10]]) (.block 2 (.seq (.reg false [om_ 40 7 [],om_ 41 8 [],oo_ 42 (.bin .lss (.t 40) (.t 41)) [0,1],om_ 39 42 [2]]) (.cond (.t 39) (.seq (.reg false [oo_ 4 (.mv (.d (.int
 .i64 (-1)))) []]) .ret) (.seq (.reg false [om_ 44 7 [],om_ 45 8 [],oo_ 46 (.bin .gtr (.t 44) (.t 45)) [0,1],om_ 43 46 [2]]) (.cond (.t 43) (.seq (.reg false [oo_ 4 (.mv (.d (.int .i64 1))) []]) .ret) .skip))))))) (.reg
 false [om_ 27 6 [],oo_ 28 (.bin .sub (.t 27) (.d (.int .i64 1))) [0],om_ 6 28 [1,0,1]])))))) (.seq (.reg false [oo_ 4 (.mv (.d (.int .i64 0))) []]) .ret))))
theorem o_bu : fnOf Tryz.prog o_bs = some (o_bt, [.t 4], 47, false) := by kernel_rfl

abbrev o_bv : FuncId := 145
def o_bw : C := (.seq (.reg false [oo_ 2 (.box 25 (.t 0)) [],oo_ 3 (.box 25 (.t 1)) [],oo_ 4 (.new 25 [.nilsl]) []]) (.seq (.block 0 (.loop (.seq (.seq (.reg false [oo_ 8 (.load true 1 (.t 3)) [],oo_ 9 (.call 137 [(.t 8)]) [0],oo_ 10
 (.un .not (.t 9)) [1]]) (.cond (.t 10) .skip (.exit 0))) (.block 1 (.seq (.reg false [oo_ 12 (.load true 1 (.t 2)) [],oo_ 13 (.load true 1 (.t 3)) [],oo_ 14 (.call 146 [(.t 12),(.t 13)]) [0,1],om_ 11 14 [2],oo_ 15 (.ext
 (.t 11) 0) [3],oo_ 16 (.ext (.t 11) 1) [3],oo_ 17 (.ext (.t 11) 2) [3],oo_ 5 (.new 25 [.nilsl]) [],oo_ 6 (.new 25 [.nilsl]) [],on_ (.store 1 (.t 5) (.t 15)) [7,4,2,0,1,2,3,4,7,8],on_ (.store 1 (.t 6) (.t 16))
 [8,5,9,0,1,2,3,4,5,7,8,9],om_ 7 17 [6,10,0,1,2,3,4,5,6,7,8,9,10]]) (.reg true [oo_ 18 (.load true 1 (.t 3)) [],oo_ 19 (.load true 1 (.t 6)) [],on_ (.store 1 (.t 2) (.t 18)) [0,0],on_ (.store 1 (.t 3) (.t 19))
 [1,2,0,1,2]])))))) (.seq (.reg false [oo_ 20 (.fa 0 (.t 2)) [],oo_ 21 (.load false 1 (.t 20)) [0],oo_ 22 (.call 139 [(.t 21)]) [1],on_ (.store 1 (.t 4) (.t 22)) [2,2,0,1,2]]) .ret)))
theorem o_bx : fnOf Tryz.prog o_bv = some (o_bw, [.cell 4 true 1], 23, false) := by kernel_rfl

abbrev o_by : FuncId := 146
def o_bz : C := (.seq (.reg false [oo_ 2 (.box 25 (.t 0)) [],oo_ 3 (.box 25 (.t 1)) [],oo_ 4 (.new 25 [.nilsl]) [],oo_ 5 (.new 25 [.nilsl]) [],oo_ 6 (.mv (.d (.int .i64 0))) []]) (.seq (.block 0 (.seq (.reg false [oo_ 10 (.load true 1
 (.t 3)) [],oo_ 11 (.call 137 [(.t 10)]) [0],om_ 9 11 [1,1]]) (.cond (.t 9) (.seq (.reg false [oo_ 12 (.build [.nilsl] []) [],oo_ 13 (.build [.nilsl] []) [],on_ (.store 1 (.t 4) (.t 12)) [0,0],on_ (.store 1 (.t 5) (.t
 13)) [1,2,0,1,2],oo_ 6 (.mv (.d (.int .i64 7))) [3,0,1,2,3]]) .ret) (.seq (.reg false [oo_ 15 (.load true 1 (.t 2)) [],oo_ 16 (.load true 1 (.t 3)) [],oo_ 17 (.call 144 [(.t 15),(.t 16)]) [0,1],oo_ 18 (.bin .lss (.t 17)
 (.d (.int .i64 0))) [2],om_ 14 18 [3,2]]) (.cond (.t 14) (.seq (.reg false [oo_ 19 (.build [.nilsl] []) [],oo_ 20 (.fa 0 (.t 2)) [],oo_ 21 (.load false 1 (.t 20)) [1],oo_ 22 (.call 139 [(.t 21)]) [2],on_ (.store 1 (.t
 4) (.t 19)) [0,3,0],on_ (.store 1 (.t 5) (.t 22)) [3,4,0,1,2,3,4],oo_ 6 (.mv (.d (.int .i64 0))) [5,0,1,2,3,4,5]]) .ret) (.seq (.reg false [oo_ 24 (.fa 0 (.t 3)) [],oo_ 25 (.load false 1 (.t 24)) [0],oo_ 26 (.len (.t
 25)) [1],oo_ 27 (.bin .eql (.t 26) (.d (.int .i64 1))) [2],om_ 23 27 [3]]) (.cond (.t 23) (.seq (.reg true [oo_ 29 (.fa 0 (.t 2)) [],oo_ 30 (.load false 1 (.t 29)) [0],oo_ 31 (.fa 0 (.t 3)) [],oo_ 32 (.load false 1 (.t
 31)) [2],oo_ 33 (.ix 1 (.t 32) (.d (.int .i64 0))) [3],oo_ 34 (.load false 1 (.t 33)) [4],oo_ 35 (.call 140 [(.t 30),(.t 34)]) [1,5],om_ 28 35 [6],oo_ 36 (.ext (.t 28) 0) [7],oo_ 37 (.ext (.t 28) 1) [7],om_ 7 36
 [8,6,0,1,2,3,4,5,6,7,8],om_ 8 37 [9,10,0,1,2,3,4,5,6,7,8,9,10]]) (.seq (.reg false [om_ 38 7 [],oo_ 39 (.call 141 [(.t 38)]) [0],om_ 40 8 [],oo_ 41 (.bsl 194 1 1 [(.int .u64 0)] [(0,1,(.t 40))]) [2],oo_ 42 (.call 139
 [(.t 41)]) [3,1],on_ (.store 1 (.t 4) (.t 39)) [1,4,0,1],on_ (.store 1 (.t 5) (.t 42)) [4,5,0,1,2,3,4,5],oo_ 6 (.mv (.d (.int .i64 0))) [6,0,1,2,3,4,5,6]]) .ret)) .skip))))))) (.seq (.reg false [oo_ 43 (.load true 1 (.t
 2)) [],oo_ 44 (.load true 1 (.t 3)) [],oo_ 45 (.call 201 [(.t 43),(.t 44)]) [0,1],oo_ 46 (.ext (.t 45) 0) [2],oo_ 47 (.ext (.t 45) 1) [2],oo_ 48 (.ext (.t 45) 2) [2],on_ (.store 1 (.t 4) (.t 46)) [3,2,0,1,2,3,4,5],on_
 (.store 1 (.t 5) (.t 47)) [4,6,0,1,2,3,4,5,6],om_ 6 48 [5,7,0,1,2,3,4,5,6,7]]) .ret)))
theorem o_c0 : fnOf Tryz.prog o_by = some (o_bz, [.cell 4 true 1, .cell 5 true 1, .t 6], 49, false) := by kernel_rfl

abbrev o_c1 : FuncId := 147
def o_c2 : C := (.seq (.reg false [oo_ 2 (.box 25 (.t 0)) [],oo_ 3 (.box 25 (.t 1)) [],oo_ 4 (.new 25 [.nilsl]) [],oo_ 5 (.mv (.d (.int .i64 0))) []]) (.seq (.seq (.reg false [oo_ 11 (.load true 1 (.t 2)) [],oo_ 12 (.load true 1 (.t
 3)) [],oo_ 13 (.call 144 [(.t 11),(.t 12)]) [0,1],oo_ 14 (.bin .lss (.t 13) (.d (.int .i64 0))) [2]]) (.cond (.t 14) (.seq (.reg false [oo_ 15 (.build [.nilsl] []) [],on_ (.store 1 (.t 4) (.t 15)) [0,0],oo_ 5 (.mv (.d
 (.int .i64 2))) [1,0,1]]) .ret) .skip)) (.seq (.reg false [oo_ 16 (.fa 0 (.t 2)) [],oo_ 17 (.load false 1 (.t 16)) [0],oo_ 18 (.len (.t 17)) [1],oo_ 19 (.mksl 194 1 8 [(.int .u64 0)] (.t 18) (.t 18)) [2,2],om_ 6 19
 [3,0,1,2,3]]) (.seq (.reg false [oo_ 7 (.mv (.d (.int .u64 0))) []]) (.seq (.seq (.reg false [oo_ 20 (.fa 0 (.t 2)) [],oo_ 21 (.load false 1 (.t 20)) [0],oo_ 22 (.len (.t 21)) [1],oo_ 23 (.mv (.d (.int .i64 0))) []])
 (.block 0 (.loop (.seq (.reg false [oo_ 24 (.bin .lss (.t 23) (.t 22)) []]) (.seq (.cond (.t 24) .skip (.exit 0)) (.seq (.block 1 (.seq (.reg false [om_ 25 23 [],oo_ 26 (.ix 1 (.t 21) (.t 23)) [],oo_ 27 (.load false 1
 (.t 26)) [1],om_ 8 25 [0,0,1,2],om_ 9 27 [2,3,0,1,2,3]]) (.seq (.reg false [oo_ 10 (.mv (.d (.int .u64 0))) []]) (.seq (.seq (.reg false [om_ 28 8 [],oo_ 29 (.fa 0 (.t 3)) [],oo_ 30 (.load false 1 (.t 29)) [1],oo_ 31
 (.len (.t 30)) [2],oo_ 32 (.bin .lss (.t 28) (.t 31)) [0,3]]) (.cond (.t 32) (.reg false [oo_ 33 (.fa 0 (.t 3)) [],oo_ 34 (.load false 1 (.t 33)) [0],om_ 35 8 [],oo_ 36 (.ix 1 (.t 34) (.t 35)) [1,2],oo_ 37 (.load false
 1 (.t 36)) [3],om_ 10 37 [4,0,1,2,3,4]]) .skip)) (.reg false [om_ 39 6 [],om_ 40 8 [],om_ 41 9 [],om_ 42 10 [],om_ 43 7 [],oo_ 44 (.call 202 [(.t 41),(.t 42),(.t 43)]) [2,3,4],om_ 38 44 [5],oo_ 45 (.ext (.t 38) 0)
 [6],oo_ 46 (.ext (.t 38) 1) [6],oo_ 47 (.ix 1 (.t 39) (.t 40)) [0,1,0,1,2,3,4,5,6,7],on_ (.store 1 (.t 47) (.t 45)) [9,7,5,0,1,2,3,4,5,6,7],om_ 7 46 [8,10,0,1,2,3,4,5,6,7,8,9,10]]))))) (.reg false [oo_ 48 (.bin .add (.t
 23) (.d (.int .i64 1))) [],om_ 23 48 [0]]))))))) (.seq (.reg false [om_ 49 6 [],oo_ 50 (.call 141 [(.t 49)]) [0],on_ (.store 1 (.t 4) (.t 50)) [1,1,0,1],oo_ 5 (.mv (.d (.int .i64 0))) [2,0,1,2]]) .ret))))))
theorem o_c3 : fnOf Tryz.prog o_c1 = some (o_c2, [.cell 4 true 1, .t 5], 51, false) := by kernel_rfl

abbrev o_c4 : FuncId := 148
def o_c5 : C := (.seq (.reg false [oo_ 4 (.mv (.d (.int .u64 0))) [],oo_ 5 (.mv (.d (.int .u64 0))) [0]]) (.seq (.reg false [om_ 14 0 [],oo_ 15 (.bin .and (.t 14) (.d (.int .u64 4294967295))) [0],om_ 6 15 [1,0,1]]) (.seq (.reg false
 [om_ 16 0 [],oo_ 17 (.bin .shr (.t 16) (.d (.int .u64 32))) [0],om_ 7 17 [1,0,1]]) (.seq (.reg false [om_ 18 1 [],oo_ 19 (.bin .and (.t 18) (.d (.int .u64 4294967295))) [0],om_ 8 19 [1,0,1]]) (.seq (.reg false [om_ 20 1
 [],oo_ 21 (.bin .shr (.t 20) (.d (.int .u64 32))) [0],om_ 9 21 [1,0,1]]) (.seq (.reg false [om_ 22 6 [],om_ 23 8 [],oo_ 24 (.bin .mul (.t 22) (.t 23)) [0,1],om_ 10 24 [2,0,1,2]]) (.seq (.reg false [om_ 25 7 [],om_ 26 8
 [],oo_ 27 (.bin .mul (.t 25) (.t 26)) [0,1],om_ 28 10 [],oo_ 29 (.bin .shr (.t 28) (.d (.int .u64 32))) [3],oo_ 30 (.bin .add (.t 27) (.t 29)) [2,4],om_ 11 30 [5,0,1,2,3,4,5]]) (.seq (.reg false [om_ 31 11 [],oo_ 32
 (.bin .and (.t 31) (.d (.int .u64 4294967295))) [0],om_ 12 32 [1,0,1]]) (.seq (.reg false [om_ 33 11 [],oo_ 34 (.bin .shr (.t 33) (.d (.int .u64 32))) [0],om_ 13 34 [1,0,1]]) (.seq (.reg false [om_ 35 12 [],om_ 36 6
 [],om_ 37 9 [],oo_ 38 (.bin .mul (.t 36) (.t 37)) [1,2],oo_ 39 (.bin .add (.t 35) (.t 38)) [0,3],om_ 12 39 [4,0,1,2,3,4]]) (.seq (.reg false [om_ 40 7 [],om_ 41 9 [],oo_ 42 (.bin .mul (.t 40) (.t 41)) [0,1],om_ 43 13
 [],oo_ 44 (.bin .add (.t 42) (.t 43)) [2,3],om_ 45 12 [],oo_ 46 (.bin .shr (.t 45) (.d (.int .u64 32))) [5],oo_ 47 (.bin .add (.t 44) (.t 46)) [4,6],om_ 4 47 [7,0,1,2,3,4,5,6,7]]) (.seq (.reg false [om_ 48 0 [],om_ 49 1
 [],oo_ 50 (.bin .mul (.t 48) (.t 49)) [0,1],om_ 5 50 [2,0,1,2]]) .ret))))))))))))
theorem o_c6 : fnOf Tryz.prog o_c4 = some (o_c5, [.t 4, .t 5], 51, false) := by kernel_rfl

abbrev o_c7 : FuncId := 160
def o_c8 : C := (.seq (.reg false [oo_ 2 (.mv (.d (.int .i64 0))) []]) (.seq (.cond (.d (.bool false)) (.seq (.reg false [om_ 3 0 [],oo_ 4 (.conv .u32 (.t 3)) [0],oo_ 5 (.call 205 [(.t 4)]) [1],om_ 2 5 [2,2,0,1,2]]) .ret) .skip) (.seq
 (.reg false [om_ 6 0 [],oo_ 7 (.call 206 [(.t 6)]) [0],om_ 2 7 [1,1,0,1]]) .ret)))
theorem o_c9 : fnOf Tryz.prog o_c7 = some (o_c8, [.t 2], 8, false) := by kernel_rfl

abbrev o_ca : FuncId := 169
def o_cb : C := (.seq (.reg false [oo_ 1 (.box 73 (.t 0)) [],oo_ 2 (.mv (.d (.int .i64 0))) []]) (.seq (.seq (.reg false [oo_ 3 (.fa 0 (.t 1)) [],oo_ 4 (.load false 1 (.t 3)) [0],oo_ 5 (.bin .eql (.t 4) (.d (.int .i64 4))) [1]]) (.cond
 (.t 5) (.seq (.reg false [oo_ 6 (.load true 3 (.t 1)) [],oo_ 7 (.call 124 [(.t 6)]) [0],oo_ 8 (.call 209 [(.t 7)]) [1,1],om_ 2 8 [2,2,0,1,2]]) .ret) .skip)) (.seq (.reg false [oo_ 9 (.load true 3 (.t 1)) [],oo_ 10
 (.call 128 [(.t 9)]) [0],oo_ 11 (.call 86 [(.t 10)]) [1,1],om_ 2 11 [2,2,0,1,2]]) .ret)))
theorem o_cc : fnOf Tryz.prog o_ca = some (o_cb, [.t 2], 12, false) := by kernel_rfl

abbrev o_cd : FuncId := 170
def o_ce : C := (.seq (.reg false [oo_ 4 (.mv (.d (.bool false))) []]) (.seq (.reg false [om_ 5 0 [],om_ 6 1 [],oo_ 7 (.call 210 [(.t 5),(.t 6)]) [0,1],oo_ 8 (.bin .geq (.t 7) (.d (.int .i64 0))) [2],om_ 4 8 [3,2,0,1,2,3]]) .ret))
theorem o_cf : fnOf Tryz.prog o_cd = some (o_ce, [.t 4], 9, false) := by kernel_rfl

abbrev o_cg : FuncId := 171
def o_ch : C := (.seq (.reg false [oo_ 2 (.box 78 (.t 0)) [],oo_ 3 (.mv (.d (.bool false))) []]) (.seq (.reg false [oo_ 4 (.load true 3 (.t 1)) [],oo_ 5 (.load true 3 (.t 2)) [],oo_ 6 (.call 107 [(.t 4),(.t 5)]) [0,1],oo_ 7 (.un .not
 (.t 6)) [2],om_ 3 7 [3,2,0,1,2,3]]) .ret))
theorem o_ci : fnOf Tryz.prog o_cg = some (o_ch, [.t 3], 8, false) := by kernel_rfl

abbrev o_cj : FuncId := 172
def o_ck : C := (.seq (.reg false [oo_ 3 (.box 29 (.t 0)) [],oo_ 4 (.box 78 (.t 1)) [],oo_ 5 (.box 78 (.t 2)) [],oo_ 6 (.mv .bad) []]) (.seq (.reg false [oo_ 8 (.mkm 1000391) [],om_ 7 8 [0,0]]) (.seq (.reg false [om_ 9 7 [],oo_ 10
 (.load true 3 (.t 4)) [],oo_ 11 (.load true 3 (.t 3)) [],oo_ 12 (.call 114 [(.t 9),(.t 10),(.t 11)]) [0,1,2]]) (.seq (.reg true [om_ 13 7 [],oo_ 14 (.load true 3 (.t 5)) [],oo_ 15 (.call 21 [(.d (.int .i64 1))]) [],oo_
 16 (.load true 3 (.t 3)) [],oo_ 17 (.call 55 [(.t 15),(.t 16)]) [2,3,2],oo_ 18 (.call 114 [(.t 13),(.t 14),(.t 17)]) [0,1,4,4]]) (.seq (.reg false [om_ 19 7 [],om_ 6 19 [0,0]]) .ret)))))
theorem o_cl : fnOf Tryz.prog o_cj = some (o_ck, [.t 6], 20, false) := by kernel_rfl

abbrev o_cm : FuncId := 176
def o_cn : C := (.seq (.reg false [oo_ 1 (.box 73 (.t 0)) [],oo_ 2 (.new 52 [(.int .i64 0),(.int .i64 0),(.int .i64 0)]) []]) (.seq (.reg false [oo_ 3 (.fa 0 (.t 1)) [],oo_ 4 (.load false 1 (.t 3)) [0],oo_ 5 (.fa 1 (.t 1)) [],oo_ 6
 (.load false 1 (.t 5)) [2],oo_ 7 (.fa 2 (.t 1)) [],oo_ 8 (.load false 1 (.t 7)) [4],oo_ 9 (.build [(.int .i64 0),(.int .i64 0),(.int .i64 0)] [(0,1,(.t 4)),(1,1,(.t 6)),(2,1,(.t 8))]) [1,3,5],on_ (.store 3 (.t 2) (.t
 9)) [6,0,1,2,3,4,5,6]]) .ret))
theorem o_co : fnOf Tryz.prog o_cm = some (o_cn, [.cell 2 true 3], 10, false) := by kernel_rfl

abbrev o_cp : FuncId := 177
def o_cq : C := (.seq (.reg false [oo_ 2 (.box 52 (.t 0)) [],oo_ 4 (.new 29 [.nilsl,(.bool false),.nilsl]) [],oo_ 5 (.mv (.d (.int .i64 0))) []]) (.seq (.seq (.reg false [oo_ 7 (.load true 3 (.t 2)) [],om_ 8 1 [],oo_ 9 (.bsl 3 1 1
 [(.int .i64 0)] [(0,1,(.t 8))]) [1],oo_ 10 (.call 89 [(.t 7),(.t 9)]) [0,2],om_ 6 10 [3,3,0,1,2,3]]) (.seq (.reg false [om_ 11 6 [],oo_ 12 (.bin .neq (.t 11) (.d (.int .i64 0))) [0],om_ 13 12 [1],og_ 14 (.mv (.t 1)) 13
 false [2],og_ 15 (.load true 3 (.t 2)) 13 false [2],og_ 16 (.call 87 [(.t 15)]) 13 false [4,2,2],og_ 17 (.bin .eql (.t 14) (.t 16)) 13 false [3,5,2],oo_ 18 (.pick (.t 13) (.d (.bool true)) (.t 17)) [2,6]]) (.cond (.t
 18) (.seq (.reg false [oo_ 19 (.build [.nilsl,(.bool false),.nilsl] []) [],om_ 20 6 [],on_ (.store 3 (.t 4) (.t 19)) [0,0],om_ 5 20 [1,2,0,1,2]]) .ret) .skip))) (.seq (.reg false [oo_ 21 (.load true 3 (.t 2)) [],oo_ 22
 (.call 90 [(.t 21)]) [0],om_ 23 1 [],oo_ 24 (.inv (.t 22) "tallymark/chain.chance" [(.t 23)]) [1,2,1],oo_ 25 (.ext (.t 24) 0) [3],oo_ 26 (.ext (.t 24) 1) [3],on_ (.store 3 (.t 4) (.t 25)) [4,3,0,1,2,3,4,5],om_ 5 26
 [5,6,0,1,2,3,4,5,6]]) .ret)))
theorem o_cr : fnOf Tryz.prog o_cp = some (o_cq, [.cell 4 true 3, .t 5], 27, false) := by kernel_rfl

abbrev o_cs : FuncId := 178
def o_ct : C := (.seq (.reg false [oo_ 3 (.box 73 (.t 0)) [],oo_ 4 (.box 78 (.t 1)) [],oo_ 5 (.box 29 (.t 2)) [],oo_ 6 (.mv .bad) []]) (.seq (.seq (.reg true [oo_ 8 (.fa 0 (.t 4)) [],oo_ 9 (.load false 1 (.t 8)) [0],oo_ 10 (.load true
 3 (.t 3)) [],oo_ 11 (.call 176 [(.t 10)]) [2],oo_ 12 (.call 87 [(.t 11)]) [3,3],oo_ 13 (.bin .eql (.t 9) (.t 12)) [1,4]]) (.cond (.t 13) (.seq (.reg false [oo_ 14 (.fa 2 (.t 4)) [],on_ (.store 1 (.t 14) (.d (.bool
 true))) [0]]) (.seq (.reg false [oo_ 15 (.load true 3 (.t 4)) [],oo_ 16 (.call 102 [(.t 15)]) [0],om_ 6 16 [1,1,0,1]]) .ret)) .skip)) (.seq (.reg false [oo_ 17 (.load true 3 (.t 4)) [],oo_ 7 (.new 78 [(.int .i64
 0),(.int .i64 0),(.bool false)]) [],on_ (.store 3 (.t 7) (.t 17)) [1,0,0,1]]) (.seq (.reg false [oo_ 18 (.fa 0 (.t 7)) [],oo_ 19 (.load false 1 (.t 18)) [0],oo_ 20 (.bin .add (.t 19) (.d (.int .i64 1))) [1],oo_ 21 (.fa
 0 (.t 7)) [0,1,2],on_ (.store 1 (.t 21) (.t 20)) [3,2,0,1,2]]) (.seq (.reg false [oo_ 22 (.load true 3 (.t 5)) [],oo_ 23 (.load true 3 (.t 7)) [],oo_ 24 (.load true 3 (.t 4)) [],oo_ 25 (.call 172 [(.t 22),(.t 23),(.t
 24)]) [0,1,2],om_ 6 25 [3,3,0,1,2,3]]) .ret)))))
theorem o_cu : fnOf Tryz.prog o_cs = some (o_ct, [.t 6], 26, false) := by kernel_rfl

abbrev o_cv : FuncId := 179
def o_cw : C := (.seq (.reg false [om_ 5 0 [],oo_ 6 (.len (.t 5)) [0],om_ 4 6 [1,0,1]]) (.reg false [om_ 7 0 [],om_ 8 4 [],om_ 9 4 [],oo_ 10 (.conv .u64 (.t 9)) [2],oo_ 11 (.call 160 [(.t 10)]) [3],om_ 12 1 [],oo_ 13 (.call 214 [(.t
 7),(.d (.int .i64 0)),(.t 8),(.t 11),(.t 12)]) [0,1,4,5,4]]))
theorem o_cx : fnOf Tryz.prog o_cv = some (o_cw, [], 14, false) := by kernel_rfl

abbrev o_cy : FuncId := 180
def o_cz : C := (.seq (.reg false [oo_ 2 (.box 91 (.t 0)) [],oo_ 3 (.box 91 (.t 1)) [],oo_ 4 (.mv (.d (.int .i64 0))) []]) (.seq (.reg true [oo_ 7 (.fa 0 (.t 2)) [],oo_ 8 (.load true 3 (.t 7)) [0],oo_ 9 (.fa 0 (.t 3)) [],oo_ 10 (.load
 true 3 (.t 9)) [2],oo_ 5 (.new 78 [(.int .i64 0),(.int .i64 0),(.bool false)]) [],oo_ 6 (.new 78 [(.int .i64 0),(.int .i64 0),(.bool false)]) [],on_ (.store 3 (.t 5) (.t 8)) [4,1,0,1,4,5],on_ (.store 3 (.t 6) (.t 10))
 [5,3,6,0,1,2,3,4,5,6]]) (.seq (.reg true [oo_ 11 (.fa 0 (.t 5)) [],oo_ 12 (.load false 1 (.t 11)) [0],oo_ 13 (.fa 0 (.t 6)) [],oo_ 14 (.load false 1 (.t 13)) [2],oo_ 15 (.call 216 [(.t 12),(.t 14)]) [1,3],oo_ 16 (.fa 1
 (.t 5)) [],oo_ 17 (.load false 1 (.t 16)) [5],oo_ 18 (.fa 1 (.t 6)) [],oo_ 19 (.load false 1 (.t 18)) [7],oo_ 20 (.call 216 [(.t 17),(.t 19)]) [6,8,4],oo_ 21 (.fa 2 (.t 5)) [],oo_ 22 (.load false 1 (.t 21)) [10],oo_ 23
 (.call 217 [(.t 22)]) [11,9],oo_ 24 (.fa 2 (.t 6)) [],oo_ 25 (.load false 1 (.t 24)) [13],oo_ 26 (.call 217 [(.t 25)]) [14,12],oo_ 27 (.call 216 [(.t 23),(.t 26)]) [12,15,15],oo_ 28 (.bsl 3 1 3 [(.int .i64 0),(.int .i64
 0),(.int .i64 0)] [(0,1,(.t 15)),(1,1,(.t 20)),(2,1,(.t 27))]) [4,9,16],oo_ 29 (.call 215 [(.t 28)]) [17,16],om_ 4 29 [18,18,0,1,2,3,4,5,6,7,8,9,10,11,12,13,14,15,16,17,18]]) .ret)))
theorem o_d0 : fnOf Tryz.prog o_cy = some (o_cz, [.t 4], 30, false) := by kernel_rfl

abbrev o_d1 : FuncId := 181
def o_d2 : C := (.seq (.reg false [oo_ 2 (.box 180 (.t 0)) [],oo_ 3 (.box 178 (.t 1)) [],oo_ 4 (.mv (.d (.bool false))) []]) (.seq (.reg false [oo_ 6 (.fa 0 (.t 3)) [],oo_ 7 (.load false 1 (.t 6)) [0],oo_ 8 (.bin .geq (.t 7) (.d (.int
 .i64 0))) [1],om_ 9 8 [2],og_ 10 (.fa 0 (.t 3)) 9 true [3],og_ 11 (.load false 1 (.t 10)) 9 true [4,3],og_ 12 (.fa 0 (.t 2)) 9 true [3],og_ 13 (.load false 1 (.t 12)) 9 true [6,3],og_ 14 (.bin .leq (.t 11) (.t 13)) 9
 true [5,7,3],oo_ 15 (.pick (.t 9) (.t 14) (.d (.bool false))) [3,8],om_ 16 15 [9,3],og_ 17 (.fa 1 (.t 3)) 16 true [10],og_ 18 (.load false 1 (.t 17)) 16 true [11,10],og_ 19 (.bin .geq (.t 18) (.d (.int .i64 0))) 16 true
 [12,10],oo_ 20 (.pick (.t 16) (.t 19) (.d (.bool false))) [10,13],om_ 21 20 [14,10],og_ 22 (.fa 1 (.t 3)) 21 true [15],og_ 23 (.load false 1 (.t 22)) 21 true [16,15],og_ 24 (.fa 1 (.t 2)) 21 true [15],og_ 25 (.load
 false 1 (.t 24)) 21 true [18,15],og_ 26 (.bin .leq (.t 23) (.t 25)) 21 true [17,19,15],oo_ 27 (.pick (.t 21) (.t 26) (.d (.bool false))) [15,20],om_ 5 27 [21,15,0,1,2,3,4,5,6,7,8,9,10,11,12,13,14,15,16,17,18,19,20,21]])
 (.seq (.reg false [oo_ 28 (.load true 2 (.t 2)) [],oo_ 29 (.call 209 [(.t 28)]) [0],oo_ 30 (.bin .eql (.t 29) (.d (.int .i64 0))) [1],om_ 31 30 [2,1],og_ 32 (.mv (.t 5)) 31 true [3],oo_ 33 (.pick (.t 31) (.t 32) (.d
 (.bool false))) [3,4],om_ 34 33 [5,3],og_ 35 (.fa 2 (.t 3)) 34 true [6],og_ 36 (.load false 1 (.t 35)) 34 true [7,6],og_ 37 (.un .not (.t 36)) 34 true [8,6],og_ 38 (.mv (.t 37)) 34 true [9,6,6],og_ 39 (.fa 1 (.t 3)) 38
 false [10],og_ 40 (.load false 1 (.t 39)) 38 false [11,10],og_ 41 (.fa 1 (.t 2)) 38 false [10],og_ 42 (.load false 1 (.t 41)) 38 false [13,10],og_ 43 (.bin .eql (.t 40) (.t 42)) 38 false [12,14,10],og_ 44 (.pick (.t 38)
 (.d (.bool true)) (.t 43)) 34 true [10,15,6],oo_ 45 (.pick (.t 34) (.t 44) (.d (.bool false))) [6,16],om_ 4 45 [17,10,0,1,2,3,4,5,6,7,8,9,10,11,12,13,14,15,16,17]]) .ret)))
theorem o_d3 : fnOf Tryz.prog o_d1 = some (o_d2, [.t 4], 46, false) := by kernel_rfl

abbrev o_d4 : FuncId := 182
def o_d5 : C := (.seq (.reg false [oo_ 3 (.box 73 (.t 0)) [],oo_ 4 (.box 78 (.t 1)) [],oo_ 5 (.box 78 (.t 2)) [],oo_ 6 (.mv .bad) []]) (.seq (.reg false [oo_ 11 (.load true 3 (.t 4)) [],oo_ 12 (.call 102 [(.t 11)]) [0],om_ 7 12
 [1,1,0,1]]) (.seq (.seq (.reg false [oo_ 13 (.fa 0 (.t 5)) [],oo_ 14 (.load false 1 (.t 13)) [0],oo_ 15 (.mv (.d (.int .i64 0))) []]) (.block 0 (.loop (.seq (.reg false [oo_ 16 (.bin .lss (.t 15) (.t 14)) []]) (.seq
 (.cond (.t 16) .skip (.exit 0)) (.seq (.block 1 (.seq (.reg false [om_ 17 15 [],om_ 8 17 [0,0]]) (.seq (.reg false [oo_ 19 (.load true 3 (.t 3)) [],oo_ 20 (.call 176 [(.t 19)]) [0],om_ 21 8 [],oo_ 22 (.call 177 [(.t
 20),(.t 21)]) [1,2,1],om_ 18 22 [3],oo_ 23 (.ext (.t 18) 0) [4],oo_ 24 (.ext (.t 18) 1) [4],oo_ 9 (.new 29 [.nilsl,(.bool false),.nilsl]) [],on_ (.store 3 (.t 9) (.t 23)) [7,5,3,0,1,2,3,4,5,7],om_ 10 24
 [6,8,0,1,2,3,4,5,6,7,8]]) (.reg false [om_ 25 7 [],oo_ 26 (.mkf (.func 218) [(.t 3),(.t 9)]) [],oo_ 27 (.call 103 [(.t 25),(.t 26)]) [0,1],om_ 7 27 [2,2,0,1,2]])))) (.reg false [oo_ 28 (.bin .add (.t 15) (.d (.int .i64
 1))) [],om_ 15 28 [0]]))))))) (.seq (.reg false [om_ 29 7 [],oo_ 30 (.mkf (.func 219) [(.t 5)]) [],oo_ 31 (.call 103 [(.t 29),(.t 30)]) [0,1],om_ 6 31 [2,2,0,1,2]]) .ret))))
theorem o_d6 : fnOf Tryz.prog o_d4 = some (o_d5, [.t 6], 32, false) := by kernel_rfl

abbrev o_d7 : FuncId := 185
def o_d8 : C := (.seq (.reg false [oo_ 4 (.mv (.d .nilsl)) []]) (.seq (.seq (.reg false [om_ 5 1 [],oo_ 6 (.bin .lss (.t 5) (.d (.int .i64 0))) [0]]) (.cond (.t 6) (.reg false [⟨some 7,.ifc 9 (.d (.str
 ⟨#[99,97,110,110,111,116,32,98,101,32,110,101,103,97,116,105,118,101]⟩)),none,[]⟩,on_ (.bad) [0]]) .skip)) (.seq (.seq (.reg false [om_ 8 1 [],om_ 9 0 [],oo_ 10 (.capn (.t 9)) [1],om_ 11 0 [],oo_ 12 (.len (.t 11))
 [3],oo_ 13 (.bin .sub (.t 10) (.t 12)) [2,4],oo_ 14 (.bin .sub (.t 8) (.t 13)) [0,5],om_ 1 14 [6,0,1,2,3,4,5,6]]) (.seq (.reg false [om_ 15 1 [],oo_ 16 (.bin .gtr (.t 15) (.d (.int .i64 0))) [0]]) (.cond (.t 16) (.reg
 false [om_ 17 0 [],om_ 18 0 [],oo_ 19 (.capn (.t 18)) [1],oo_ 20 (.slice 6 (.t 17) none (some (.t 19)) none) [0,2],om_ 21 1 [],oo_ 22 (.appz 91 6 80 [(.int .i64 0),(.int .i64 0),(.bool false),.nilsl,(.bool
 false),.nilsl] (.t 20) (.t 21)) [3,4],om_ 23 0 [],oo_ 24 (.len (.t 23)) [6],oo_ 25 (.cut 6 (.t 22) (.t 24)) [5,7],om_ 0 25 [8,5,0,1,2,3,4,5,6,7,8]]) .skip))) (.seq (.reg false [om_ 26 0 [],om_ 4 26 [0,0]]) .ret))))
theorem o_d9 : fnOf Tryz.prog o_d7 = some (o_d8, [.t 4], 27, false) := by kernel_rfl

abbrev o_da : FuncId := 191
def o_db : C := (.seq (.reg false [oo_ 1 (.box 25 (.t 0)) [],oo_ 2 (.mv (.d (.int .i64 0))) []]) (.seq (.reg false [oo_ 4 (.fa 0 (.t 1)) [],oo_ 5 (.load false 1 (.t 4)) [0],oo_ 6 (.len (.t 5)) [1],om_ 3 6 [2,0,1,2]]) (.seq (.seq (.reg
 false [om_ 7 3 [],oo_ 8 (.bin .eql (.t 7) (.d (.int .i64 0))) [0]]) (.cond (.t 8) (.seq (.reg false [oo_ 2 (.mv (.d (.int .i64 0))) []]) .ret) .skip)) (.seq (.reg false [om_ 9 3 [],oo_ 10 (.bin .sub (.t 9) (.d (.int
 .i64 1))) [0],oo_ 11 (.bin .mul (.d (.int .i64 64)) (.t 10)) [1],oo_ 12 (.fa 0 (.t 1)) [],oo_ 13 (.load false 1 (.t 12)) [3],om_ 14 3 [],oo_ 15 (.bin .sub (.t 14) (.d (.int .i64 1))) [5],oo_ 16 (.ix 1 (.t 13) (.t 15))
 [4,6],oo_ 17 (.load false 1 (.t 16)) [7],oo_ 18 (.call 206 [(.t 17)]) [8],oo_ 19 (.bin .add (.t 11) (.t 18)) [2,9],om_ 2 19 [10,9,0,1,2,3,4,5,6,7,8,9,10]]) .ret))))
theorem o_dc : fnOf Tryz.prog o_da = some (o_db, [.t 2], 20, false) := by kernel_rfl

abbrev o_dd : FuncId := 192
def o_de : C := (.seq (.reg false [oo_ 2 (.mv (.d .nilsl)) []]) (.seq (.seq (.reg false [om_ 3 0 [],oo_ 4 (.snl false (.t 3)) [0]]) (.cond (.t 4) (.seq (.reg false [oo_ 2 (.mv (.d .nilsl)) []]) .ret) .skip)) (.seq (.reg false [oo_ 5
 (.bsl0) [],om_ 6 0 [],oo_ 7 (.app 194 1 8 (.t 5) (.t 6)) [0,1],om_ 2 7 [2,2,0,1,2]]) .ret)))
theorem o_df : fnOf Tryz.prog o_dd = some (o_de, [.t 2], 8, false) := by kernel_rfl

abbrev o_dg : FuncId := 193
def o_dh : C := (.seq (.reg false [oo_ 6 (.mv (.d (.int .u64 0))) [],oo_ 7 (.mv (.d (.int .u64 0))) [0]]) (.seq (.seq (.reg false [om_ 19 2 [],oo_ 20 (.bin .eql (.t 19) (.d (.int .u64 0))) [0]]) (.cond (.t 20) (.reg false [oo_ 21
 (.load false 1 .bad) [],on_ (.bad) [0]]) .skip)) (.seq (.seq (.reg false [om_ 22 2 [],om_ 23 0 [],oo_ 24 (.bin .leq (.t 22) (.t 23)) [0,1]]) (.cond (.t 24) (.reg false [oo_ 25 (.load false 1 .bad) [],on_ (.bad) [0]])
 .skip)) (.seq (.seq (.reg false [om_ 26 0 [],oo_ 27 (.bin .eql (.t 26) (.d (.int .u64 0))) [0]]) (.cond (.t 27) (.seq (.reg true [om_ 28 1 [],om_ 29 2 [],oo_ 30 (.bin .quo (.t 28) (.t 29)) [0,1],om_ 31 1 [],om_ 32 2
 [],oo_ 33 (.bin .rem (.t 31) (.t 32)) [3,4],om_ 6 30 [2,0,1,2],om_ 7 33 [5,6,0,1,2,3,4,5,6]]) .ret) .skip)) (.seq (.reg false [om_ 34 2 [],oo_ 35 (.call 225 [(.t 34)]) [0],oo_ 36 (.conv .u64 (.t 35)) [1],om_ 8 36
 [2,1,0,1,2]]) (.seq (.reg false [om_ 37 2 [],om_ 38 8 [],oo_ 39 (.bin .shl (.t 37) (.t 38)) [0,1],om_ 2 39 [2,0,1,2]]) (.seq (.reg false [om_ 40 2 [],oo_ 41 (.bin .shr (.t 40) (.d (.int .u64 32))) [0],om_ 9 41 [1,0,1]])
 (.seq (.reg false [om_ 42 2 [],oo_ 43 (.bin .and (.t 42) (.d (.int .u64 4294967295))) [0],om_ 10 43 [1,0,1]]) (.seq (.reg false [om_ 44 0 [],om_ 45 8 [],oo_ 46 (.bin .shl (.t 44) (.t 45)) [0,1],om_ 47 1 [],om_ 48 8
 [],oo_ 49 (.bin .sub (.d (.int .u64 64)) (.t 48)) [4],oo_ 50 (.bin .shr (.t 47) (.t 49)) [3,5],oo_ 51 (.bin .or (.t 46) (.t 50)) [2,6],om_ 11 51 [7,0,1,2,3,4,5,6,7]]) (.seq (.reg false [om_ 52 1 [],om_ 53 8 [],oo_ 54
 (.bin .shl (.t 52) (.t 53)) [0,1],om_ 12 54 [2,0,1,2]]) (.seq (.reg false [om_ 55 12 [],oo_ 56 (.bin .shr (.t 55) (.d (.int .u64 32))) [0],om_ 13 56 [1,0,1]]) (.seq (.reg false [om_ 57 12 [],oo_ 58 (.bin .and (.t 57)
 (.d (.int .u64 4294967295))) [0],om_ 14 58 [1,0,1]]) (.seq (.reg false [om_ 59 11 [],om_ 60 9 [],oo_ 61 (.bin .quo (.t 59) (.t 60)) [0,1],om_ 15 61 [2,0,1,2]]) (.seq (.reg false [om_ 62 11 [],om_ 63 15 [],om_ 64 9
 [],oo_ 65 (.bin .mul (.t 63) (.t 64)) [1,2],oo_ 66 (.bin .sub (.t 62) (.t 65)) [0,3],om_ 16 66 [4,0,1,2,3,4]]) (.seq (.block 0 (.loop (.seq (.seq (.reg false [om_ 67 15 [],oo_ 68 (.bin .geq (.t 67) (.d (.int .u64
 4294967296))) [0],om_ 69 68 [1],og_ 70 (.mv (.t 15)) 69 false [2],og_ 71 (.mv (.t 10)) 69 false [2],og_ 72 (.bin .mul (.t 70) (.t 71)) 69 false [3,4,2],og_ 73 (.mv (.t 16)) 69 false [2],og_ 74 (.bin .mul (.d (.int .u64
 4294967296)) (.t 73)) 69 false [6,2],og_ 75 (.mv (.t 13)) 69 false [2],og_ 76 (.bin .add (.t 74) (.t 75)) 69 false [7,8,2],og_ 77 (.bin .gtr (.t 72) (.t 76)) 69 false [5,9,2],oo_ 78 (.pick (.t 69) (.d (.bool true)) (.t
 77)) [2,10]]) (.cond (.t 78) .skip (.exit 0))) (.block 1 (.seq (.reg false [om_ 79 15 [],oo_ 80 (.bin .sub (.t 79) (.d (.int .u64 1))) [0],om_ 15 80 [1,0,1]]) (.seq (.reg false [om_ 81 16 [],om_ 82 9 [],oo_ 83 (.bin
 .add (.t 81) (.t 82)) [0,1],om_ 16 83 [2,0,1,2]]) (.seq (.reg false [om_ 84 16 [],oo_ 85 (.bin .geq (.t 84) (.d (.int .u64 4294967296))) [0]]) (.cond (.t 85) (.exit 0) .skip)))))))) (.seq (.reg false [om_ 86 11 [],oo_
 87 (.bin .mul (.t 86) (.d (.int .u64 4294967296))) [0],om_ 88 13 [],oo_ 89 (.bin .add (.t 87) (.t 88)) [1,2],om_ 90 15 [],om_ 91 2 [],oo_ 92 (.bin .mul (.t 90) (.t 91)) [4,5],oo_ 93 (.bin .sub (.t 89) (.t 92)) [3,6],om_
 17 93 [7,0,1,2,3,4,5,6,7]]) (.seq (.reg false [om_ 94 17 [],om_ 95 9 [],oo_ 96 (.bin .quo (.t 94) (.t 95)) [0,1],om_ 18 96 [2,0,1,2]]) (.seq (.reg false [om_ 97 17 [],om_ 98 18 [],om_ 99 9 [],oo_ 100 (.bin .mul (.t 98)
 (.t 99)) [1,2],oo_ 101 (.bin .sub (.t 97) (.t 100)) [0,3],om_ 16 101 [4,0,1,2,3,4]]) (.seq (.block 2 (.loop (.seq (.seq (.reg false [om_ 102 18 [],oo_ 103 (.bin .geq (.t 102) (.d (.int .u64 4294967296))) [0],om_ 104 103
 [1],og_ 105 (.mv (.t 18)) 104 false [2],og_ 106 (.mv (.t 10)) 104 false [2],og_ 107 (.bin .mul (.t 105) (.t 106)) 104 false [3,4,2],og_ 108 (.mv (.t 16)) 104 false [2],og_ 109 (.bin .mul (.d (.int .u64 4294967296)) (.t
 108)) 104 false [6,2],og_ 110 (.mv (.t 14)) 104 false [2],og_ 111 (.bin .add (.t 109) (.t 110)) 104 false [7,8,2],og_ 112 (.bin .gtr (.t 107) (.t 111)) 104 false [5,9,2],oo_ 113 (.pick (.t 104) (.d (.bool true)) (.t
 112)) [2,10]]) (.cond (.t 113) .skip (.exit 2))) (.block 3 (.seq (.reg false [om_ 114 18 [],oo_ 115 (.bin .sub (.t 114) (.d (.int .u64 1))) [0],om_ 18 115 [1,0,1]]) (.seq (.reg false [om_ 116 16 [],om_ 117 9 [],oo_ 118
 (.bin .add (.t 116) (.t 117)) [0,1],om_ 16 118 [2,0,1,2]]) (.seq (.reg false [om_ 119 16 [],oo_ 120 (.bin .geq (.t 119) (.d (.int .u64 4294967296))) [0]]) (.cond (.t 120) (.exit 2) .skip)))))))) (.seq (.reg false [om_
 121 15 [],oo_ 122 (.bin .mul (.t 121) (.d (.int .u64 4294967296))) [0],om_ 123 18 [],oo_ 124 (.bin .add (.t 122) (.t 123)) [1,2],om_ 125 17 [],oo_ 126 (.bin .mul (.t 125) (.d (.int .u64 4294967296))) [4],om_ 127 14
 [],oo_ 128 (.bin .add (.t 126) (.t 127)) [5,6],om_ 129 18 [],om_ 130 2 [],oo_ 131 (.bin .mul (.t 129) (.t 130)) [8,9],oo_ 132 (.bin .sub (.t 128) (.t 131)) [7,10],om_ 133 8 [],oo_ 134 (.bin .shr (.t 132) (.t 133))
 [11,12],om_ 6 124 [3,0,1,2,3],om_ 7 134 [13,14,0,1,2,3,4,5,6,7,8,9,10,11,12,13,14]]) .ret))))))))))))))))))))
theorem o_di : fnOf Tryz.prog o_dg = some (o_dh, [.t 6, .t 7], 135, false) := by kernel_rfl

abbrev o_dj : FuncId := 194
def o_dk : C := (.seq (.reg false [⟨some 4,.mv (.d (.str ⟨#[]⟩)),none,[]⟩]) (.seq (.seq (.reg false [om_ 9 1 [],oo_ 10 (.bin .eql (.t 9) (.d (.int .i64 10))) [0]]) (.cond (.t 10) (.seq (.seq (.reg false [om_ 11 0 [],oo_ 12 (.bin .lss
 (.t 11) (.d (.int .u64 100))) [0]]) (.cond (.t 12) (.seq (.reg false [om_ 13 0 [],oo_ 14 (.conv .i64 (.t 13)) [0],oo_ 15 (.call 226 [(.t 14)]) [1],om_ 4 15 [2,2,0,1,2]]) .ret) .skip)) (.seq (.reg false [oo_ 5 (.new 275
 [(.int .u8 0),(.int .u8 0),(.int .u8 0),(.int .u8 0),(.int .u8 0),(.int .u8 0),(.int .u8 0),(.int .u8 0),(.int .u8 0),(.int .u8 0),(.int .u8 0),(.int .u8 0),(.int .u8 0),(.int .u8 0),(.int .u8 0),(.int .u8 0),(.int .u8
 0),(.int .u8 0),(.int .u8 0),(.int .u8 0),(.int .u8 0),(.int .u8 0),(.int .u8 0),(.int .u8 0)]) []]) (.seq (.reg false [om_ 16 0 [],oo_ 17 (.call 227 [(.t 16)]) [0],om_ 6 17 [1,1,0,1]]) (.seq (.reg false [om_ 18 6
 [],oo_ 19 (.sla 24 1 (.t 5) none (some (.t 18))) [0],om_ 20 0 [],oo_ 21 (.call 228 [(.t 19),(.t 20)]) [1,2]]) (.seq (.reg false [om_ 22 6 [],oo_ 23 (.sla 24 1 (.t 5) none (some (.t 22))) [0],oo_ 24 (.bstr (.t 23))
 [1],om_ 4 24 [2,0,1,2]]) .ret))))) .skip)) (.seq (.reg false [om_ 26 0 [],om_ 27 1 [],oo_ 28 (.call 229 [(.d .nilsl),(.t 26),(.t 27),(.d (.bool false)),(.d (.bool false))]) [0,1],om_ 25 28 [2],oo_ 29 (.ext (.t 25) 0)
 [3],oo_ 30 (.ext (.t 25) 1) [3],om_ 7 29 [4,2,0,1,2,3,4],om_ 8 30 [5,6,0,1,2,3,4,5,6]]) (.seq (.reg false [om_ 31 8 [],om_ 4 31 [0,0]]) .ret))))
theorem o_dl : fnOf Tryz.prog o_dj = some (o_dk, [.t 4], 32, false) := by kernel_rfl

abbrev o_dm : FuncId := 201
def o_dn : C := (.seq (.reg false [oo_ 2 (.box 25 (.t 0)) [],oo_ 3 (.box 25 (.t 1)) [],oo_ 4 (.new 25 [.nilsl]) [],oo_ 5 (.new 25 [.nilsl]) [],oo_ 6 (.mv (.d (.int .i64 0))) []]) (.seq (.reg false [oo_ 13 (.fa 0 (.t 3)) [],oo_ 14
 (.load false 1 (.t 13)) [0],oo_ 15 (.len (.t 14)) [1],om_ 7 15 [2,0,1,2]]) (.seq (.reg false [oo_ 16 (.fa 0 (.t 3)) [],oo_ 17 (.load false 1 (.t 16)) [0],om_ 18 7 [],oo_ 19 (.bin .sub (.t 18) (.d (.int .i64 1))) [2],oo_
 20 (.ix 1 (.t 17) (.t 19)) [1,3],oo_ 21 (.load false 1 (.t 20)) [4],oo_ 22 (.call 225 [(.t 21)]) [5],om_ 8 22 [6,6,0,1,2,3,4,5,6]]) (.seq (.reg false [oo_ 23 (.fa 0 (.t 3)) [],oo_ 24 (.load false 1 (.t 23)) [0],om_ 25 8
 [],oo_ 26 (.call 234 [(.t 24),(.t 25)]) [1,2],om_ 27 7 [],oo_ 28 (.slice 1 (.t 26) none (some (.t 27)) none) [3,4],om_ 9 28 [5,3,0,1,2,3,4,5]]) (.seq (.reg false [oo_ 29 (.fa 0 (.t 2)) [],oo_ 30 (.load false 1 (.t 29))
 [0],om_ 31 8 [],oo_ 32 (.call 234 [(.t 30),(.t 31)]) [1,2],om_ 10 32 [3,3,0,1,2,3]]) (.seq (.reg false [om_ 33 10 [],oo_ 34 (.len (.t 33)) [0],om_ 35 7 [],oo_ 36 (.bin .sub (.t 34) (.t 35)) [1,2],oo_ 37 (.mksl 194 1 8
 [(.int .u64 0)] (.t 36) (.t 36)) [3,3],om_ 11 37 [4,0,1,2,3,4]]) (.seq (.seq (.reg false [om_ 38 11 [],oo_ 39 (.len (.t 38)) [0],oo_ 40 (.bin .sub (.t 39) (.d (.int .i64 1))) [1],om_ 12 40 [2,0,1,2]]) (.block 0 (.loop
 (.seq (.seq (.reg false [om_ 41 12 [],oo_ 42 (.bin .geq (.t 41) (.d (.int .i64 0))) [0]]) (.cond (.t 42) .skip (.exit 0))) (.seq (.block 1 (.reg false [om_ 45 11 [],om_ 46 12 [],om_ 47 10 [],om_ 48 12 [],om_ 49 12
 [],om_ 50 7 [],oo_ 51 (.bin .add (.t 49) (.t 50)) [4,5],oo_ 52 (.bin .add (.t 51) (.d (.int .i64 1))) [6],oo_ 53 (.slice 1 (.t 47) (some (.t 48)) (some (.t 52)) none) [2,3,7],om_ 54 9 [],oo_ 55 (.call 235 [(.t 53),(.t
 54)]) [8,9],oo_ 56 (.ix 1 (.t 45) (.t 46)) [0,1,0,1,2,3,4,5,6,7,8,9,10],on_ (.store 1 (.t 56) (.t 55)) [11,10,10,0,1,2,3,4,5,6,7,8,9,10]])) (.reg false [om_ 43 12 [],oo_ 44 (.bin .sub (.t 43) (.d (.int .i64 1))) [0],om_
 12 44 [1,0,1]])))))) (.seq (.reg true [om_ 57 11 [],oo_ 58 (.call 141 [(.t 57)]) [0],om_ 59 10 [],om_ 60 7 [],oo_ 61 (.slice 1 (.t 59) none (some (.t 60)) none) [2,3],oo_ 62 (.call 141 [(.t 61)]) [4,1],om_ 63 8 [],oo_
 64 (.call 236 [(.t 62),(.t 63)]) [5,6,5],on_ (.store 1 (.t 4) (.t 58)) [1,7,0,1],on_ (.store 1 (.t 5) (.t 64)) [7,8,0,1,2,3,4,5,6,7,8],oo_ 6 (.mv (.d (.int .i64 0))) [9,0,1,2,3,4,5,6,7,8,9]]) .ret))))))))
theorem o_do : fnOf Tryz.prog o_dm = some (o_dn, [.cell 4 true 1, .cell 5 true 1, .t 6], 65, false) := by kernel_rfl

abbrev o_dp : FuncId := 206
def o_dq : C := (.seq (.reg false [oo_ 2 (.mv (.d (.int .i64 0))) []]) (.seq (.seq (.reg false [om_ 3 0 [],oo_ 4 (.bin .geq (.t 3) (.d (.int .u64 4294967296))) [0]]) (.cond (.t 4) (.seq (.reg false [om_ 5 0 [],oo_ 6 (.bin .shr (.t 5)
 (.d (.int .u64 32))) [0],om_ 0 6 [1,0,1]]) (.reg false [oo_ 2 (.mv (.d (.int .i64 32))) []])) .skip)) (.seq (.seq (.reg false [om_ 7 0 [],oo_ 8 (.bin .geq (.t 7) (.d (.int .u64 65536))) [0]]) (.cond (.t 8) (.seq (.reg
 false [om_ 9 0 [],oo_ 10 (.bin .shr (.t 9) (.d (.int .u64 16))) [0],om_ 0 10 [1,0,1]]) (.reg false [om_ 11 2 [],oo_ 12 (.bin .add (.t 11) (.d (.int .i64 16))) [0],om_ 2 12 [1,0,1]])) .skip)) (.seq (.seq (.reg false [om_
 13 0 [],oo_ 14 (.bin .geq (.t 13) (.d (.int .u64 256))) [0]]) (.cond (.t 14) (.seq (.reg false [om_ 15 0 [],oo_ 16 (.bin .shr (.t 15) (.d (.int .u64 8))) [0],om_ 0 16 [1,0,1]]) (.reg false [om_ 17 2 [],oo_ 18 (.bin .add
 (.t 17) (.d (.int .i64 8))) [0],om_ 2 18 [1,0,1]])) .skip)) (.seq (.reg false [om_ 19 2 [],om_ 20 0 [],oo_ 21 (.conv .u8 (.t 20)) [1],⟨some 22,.gstr (.d (.str
 ⟨#[0,1,2,2,3,3,3,3,4,4,4,4,4,4,4,4,5,5,5,5,5,5,5,5,5,5,5,5,5,5,5,5,6,6,6,6,6,6,6,6,6,6,6,6,6,6,6,6,6,6,6,6,6,6,6,6,6,6,6,6,6,6,6,6,7,7,7,7,7,7,7,7,7,7,7,7,7,7,7,7,7,7,7,7,7,7,7,7,7,7,7,7,7,7,7,7,7,7,7,7,7,7,7,7,7,7,7,7,7,7,7,7,7,7,7,7,7,7,7,7,7,7,7,7,7,7,7,7,8,8,8,8,8,8,8,8,8,8,8,8,8,8,8,8,8,8,8,8,8,8,8,8,8,8,8,8,8,8,8,8,8,8,8,8,8,8,8,8,8,8,8,8,8,8,8,8,8,8,8,8,8,8,8,8,8,8,8,8,8,8,8,8,8,8,8,8,8,8,8,8,8,8,8,8,8,8,8,8,8,8,8,8,8,8,8,8,8,8,8,8,8,8,8,8,8,8,8,8,8,8,8,8,8,8,8,8,8,8,8,8,8,8,8,8,8,8,8,8,8,8,8,8,8,8,8,8]⟩)) (.t 21),none,[2]⟩,oo_ 23 (.conv .i64 (.t 22)) [3],oo_ 24 (.bin .add (.t 19) (.t 23)) [0,4],om_ 2 24 [5,0,1,2,3,4,5]]) .ret)))))
theorem o_dr : fnOf Tryz.prog o_dp = some (o_dq, [.t 2], 25, false) := by kernel_rfl

abbrev o_ds : FuncId := 209
def o_dt : C := (.seq (.reg false [oo_ 1 (.box 180 (.t 0)) [],oo_ 2 (.mv (.d (.int .i64 0))) []]) (.seq (.seq (.reg false [oo_ 3 (.fa 0 (.t 1)) [],oo_ 4 (.load false 1 (.t 3)) [0],oo_ 5 (.bin .lss (.t 4) (.d (.int .i64 1))) [1],om_ 6 5
 [2],og_ 7 (.fa 0 (.t 1)) 6 false [3],og_ 8 (.load false 1 (.t 7)) 6 false [4,3],og_ 9 (.bin .gtr (.t 8) (.d (.int .i64 1023))) 6 false [5,3],oo_ 10 (.pick (.t 6) (.d (.bool true)) (.t 9)) [3,6],om_ 11 10 [7,3],og_ 12
 (.fa 1 (.t 1)) 11 false [8],og_ 13 (.load false 1 (.t 12)) 11 false [9,8],og_ 14 (.bin .lss (.t 13) (.d (.int .i64 0))) 11 false [10,8],oo_ 15 (.pick (.t 11) (.d (.bool true)) (.t 14)) [8,11],om_ 16 15 [12,8],og_ 17
 (.fa 1 (.t 1)) 16 false [13],og_ 18 (.load false 1 (.t 17)) 16 false [14,13],og_ 19 (.bin .gtr (.t 18) (.d (.int .i64 20))) 16 false [15,13],oo_ 20 (.pick (.t 16) (.d (.bool true)) (.t 19)) [13,16]]) (.cond (.t 20)
 (.seq (.reg false [oo_ 2 (.mv (.d (.int .i64 10))) []]) .ret) .skip)) (.seq (.reg false [oo_ 2 (.mv (.d (.int .i64 0))) []]) .ret)))
theorem o_du : fnOf Tryz.prog o_ds = some (o_dt, [.t 2], 21, false) := by kernel_rfl

abbrev o_dv : FuncId := 210
def o_dw : C := (.seq (.reg false [oo_ 4 (.mv (.d (.int .i64 0))) []]) (.seq (.seq (.reg false [om_ 6 0 [],oo_ 7 (.len (.t 6)) [0],oo_ 8 (.mv (.d (.int .i64 0))) []]) (.block 0 (.loop (.seq (.reg false [oo_ 9 (.bin .lss (.t 8) (.t 7))
 []]) (.seq (.cond (.t 9) .skip (.exit 0)) (.seq (.block 1 (.seq (.reg false [om_ 10 8 [],om_ 5 10 [0,0]]) (.seq (.reg false [om_ 11 1 [],om_ 12 0 [],om_ 13 5 [],oo_ 14 (.ix 3 (.t 12) (.t 13)) [1,2],oo_ 15 (.load true 3
 (.t 14)) [3],oo_ 16 (.callv (.t 11) [(.t 15)]) [0,4]]) (.cond (.t 16) (.seq (.reg false [om_ 17 5 [],om_ 4 17 [0,0]]) .ret) .skip)))) (.reg false [oo_ 18 (.bin .add (.t 8) (.d (.int .i64 1))) [],om_ 8 18 [0]])))))))
 (.seq (.reg false [oo_ 4 (.mv (.d (.int .i64 (-1)))) []]) .ret)))
theorem o_dx : fnOf Tryz.prog o_dv = some (o_dw, [.t 4], 19, false) := by kernel_rfl

abbrev o_dy : FuncId := 211
def o_dz : C := (.seq (.reg false [oo_ 2 (.new 29 [.nilsl,(.bool false),.nilsl]) [],oo_ 3 (.mv (.d (.int .i64 0))) []]) (.seq (.reg false [oo_ 7 (.bsl 194 1 1 [(.int .u64 0)] [(0,1,(.d (.int .u64 1)))]) [],oo_ 8 (.call 139 [(.t 7)])
 [0],om_ 9 0 [],oo_ 10 (.call 237 [(.t 8),(.t 9)]) [1,2,1],om_ 6 10 [3],oo_ 11 (.ext (.t 6) 0) [4],oo_ 12 (.ext (.t 6) 1) [4],oo_ 4 (.new 25 [.nilsl]) [],on_ (.store 1 (.t 4) (.t 11)) [7,5,3,0,1,2,3,4,5,7],om_ 5 12
 [6,8,0,1,2,3,4,5,6,7,8]]) (.seq (.seq (.reg false [om_ 13 5 [],oo_ 14 (.bin .neq (.t 13) (.d (.int .i64 0))) [0]]) (.cond (.t 14) (.seq (.reg false [oo_ 15 (.build [.nilsl,(.bool false),.nilsl] []) [],om_ 16 5 [],on_
 (.store 3 (.t 2) (.t 15)) [0,0],om_ 3 16 [1,2,0,1,2]]) .ret) .skip)) (.seq (.reg true [oo_ 17 (.call 72 [(.d (.int .i64 1))]) [],oo_ 18 (.load true 1 (.t 4)) [],oo_ 19 (.call 74 [(.t 17),(.t 18)]) [0,1,0],on_ (.store 3
 (.t 2) (.t 19)) [2,2,0,1,2],oo_ 3 (.mv (.d (.int .i64 0))) [3,0,1,2,3]]) .ret))))
theorem o_e0 : fnOf Tryz.prog o_dy = some (o_dz, [.cell 2 true 3, .t 3], 20, false) := by kernel_rfl

abbrev o_e1 : FuncId := 214
def o_e2 : C := (.seq (.reg false [oo_ 10 (.mv (.d (.bool true))) []]) (.seq (.reg false [oo_ 11 (.mv (.d (.bool true))) []]) (.block 0 (.loop (.block 1 (.seq (.reg false [om_ 21 2 [],om_ 22 1 [],oo_ 23 (.bin .sub (.t 21) (.t 22))
 [0,1],om_ 12 23 [2,0,1,2]]) (.seq (.seq (.reg false [om_ 24 12 [],oo_ 25 (.bin .leq (.t 24) (.d (.int .i64 12))) [0]]) (.cond (.t 25) (.seq (.reg false [om_ 26 0 [],om_ 27 1 [],om_ 28 2 [],om_ 29 4 [],oo_ 30 (.call 238
 [(.t 26),(.t 27),(.t 28),(.t 29)]) [0,1,2,3]]) .ret) .skip)) (.seq (.seq (.reg false [om_ 31 3 [],oo_ 32 (.bin .eql (.t 31) (.d (.int .i64 0))) [0]]) (.cond (.t 32) (.seq (.reg false [om_ 33 0 [],om_ 34 1 [],om_ 35 2
 [],om_ 36 4 [],oo_ 37 (.call 239 [(.t 33),(.t 34),(.t 35),(.t 36)]) [0,1,2,3]]) .ret) .skip)) (.seq (.seq (.reg false [om_ 38 10 [],oo_ 39 (.un .not (.t 38)) [0]]) (.cond (.t 39) (.seq (.reg false [om_ 40 0 [],om_ 41 1
 [],om_ 42 2 [],om_ 43 4 [],oo_ 44 (.call 240 [(.t 40),(.t 41),(.t 42),(.t 43)]) [0,1,2,3]]) (.reg false [om_ 45 3 [],oo_ 46 (.bin .sub (.t 45) (.d (.int .i64 1))) [0],om_ 3 46 [1,0,1]])) .skip)) (.seq (.reg false [om_
 48 0 [],om_ 49 1 [],om_ 50 2 [],om_ 51 4 [],oo_ 52 (.call 241 [(.t 48),(.t 49),(.t 50),(.t 51)]) [0,1,2,3],om_ 47 52 [4],oo_ 53 (.ext (.t 47) 0) [5],oo_ 54 (.ext (.t 47) 1) [5],om_ 13 53 [6,4,0,1,2,3,4,5,6],om_ 14 54
 [7,8,0,1,2,3,4,5,6,7,8]]) (.seq (.seq (.reg false [om_ 55 14 [],oo_ 56 (.bin .eql (.t 55) (.d (.int .i64 2))) [0]]) (.cond (.t 56) (.seq (.reg false [om_ 57 0 [],om_ 58 1 [],om_ 59 2 [],om_ 60 4 [],oo_ 61 (.call 242
 [(.t 57),(.t 58),(.t 59),(.t 60)]) [0,1,2,3]]) (.seq (.reg false [om_ 62 2 [],oo_ 63 (.bin .sub (.t 62) (.d (.int .i64 1))) [0],om_ 64 13 [],om_ 65 1 [],oo_ 66 (.bin .sub (.t 64) (.t 65)) [2,3],oo_ 67 (.bin .sub (.t 63)
 (.t 66)) [1,4],om_ 13 67 [5,0,1,2,3,4,5]]) (.reg false [oo_ 14 (.mv (.d (.int .i64 1))) []]))) .skip)) (.seq (.seq (.reg false [om_ 68 10 [],om_ 69 68 [0],og_ 70 (.mv (.t 11)) 69 true [1],oo_ 71 (.pick (.t 69) (.t 70)
 (.d (.bool false))) [1,2],om_ 72 71 [3,1],og_ 73 (.mv (.t 14)) 72 true [4],og_ 74 (.bin .eql (.t 73) (.d (.int .i64 1))) 72 true [5,4],oo_ 75 (.pick (.t 72) (.t 74) (.d (.bool false))) [4,6]]) (.cond (.t 75) (.seq (.reg
 false [om_ 76 0 [],om_ 77 1 [],om_ 78 2 [],om_ 79 4 [],oo_ 80 (.call 243 [(.t 76),(.t 77),(.t 78),(.t 79)]) [0,1,2,3]]) (.cond (.t 80) .ret .skip)) .skip)) (.seq (.seq (.reg true [om_ 81 1 [],oo_ 82 (.bin .gtr (.t 81)
 (.d (.int .i64 0))) [0],om_ 83 82 [1],og_ 84 (.mv (.t 4)) 83 true [2],og_ 85 (.mv (.t 0)) 83 true [2],og_ 86 (.mv (.t 1)) 83 true [2],og_ 87 (.bin .sub (.t 86) (.d (.int .i64 1))) 83 true [5,2],og_ 88 (.ix 6 (.t 85) (.t
 87)) 83 true [4,6,2],og_ 89 (.load true 6 (.t 88)) 83 true [7,2],og_ 90 (.mv (.t 0)) 83 true [2],og_ 91 (.mv (.t 13)) 83 true [2],og_ 92 (.ix 6 (.t 90) (.t 91)) 83 true [9,10,2],og_ 93 (.load true 6 (.t 92)) 83 true
 [11,2],og_ 94 (.callv (.t 84) [(.t 89),(.t 93)]) 83 true [3,8,12,2,2],og_ 95 (.bin .lss (.t 94) (.d (.int .i64 0))) 83 true [13,2],og_ 96 (.un .not (.t 95)) 83 true [14,2],oo_ 97 (.pick (.t 83) (.t 96) (.d (.bool
 false))) [2,15]]) (.cond (.t 97) (.seq (.reg false [om_ 98 0 [],om_ 99 1 [],om_ 100 2 [],om_ 101 13 [],om_ 102 4 [],oo_ 103 (.call 244 [(.t 98),(.t 99),(.t 100),(.t 101),(.t 102)]) [0,1,2,3,4],om_ 15 103
 [5,5,0,1,2,3,4,5]]) (.seq (.reg false [om_ 104 15 [],om_ 1 104 [0,0]]) (.exit 1))) .skip)) (.seq (.reg false [om_ 106 0 [],om_ 107 1 [],om_ 108 2 [],om_ 109 13 [],om_ 110 4 [],oo_ 111 (.call 245 [(.t 106),(.t 107),(.t
 108),(.t 109),(.t 110)]) [0,1,2,3,4],om_ 105 111 [5],oo_ 112 (.ext (.t 105) 0) [6],oo_ 113 (.ext (.t 105) 1) [6],om_ 16 112 [7,5,0,1,2,3,4,5,6,7],om_ 17 113 [8,9,0,1,2,3,4,5,6,7,8,9]]) (.seq (.reg false [om_ 114 17
 [],om_ 11 114 [0,0]]) (.seq (.reg false [om_ 115 16 [],om_ 116 1 [],oo_ 117 (.bin .sub (.t 115) (.t 116)) [0,1],om_ 118 2 [],om_ 119 16 [],oo_ 120 (.bin .sub (.t 118) (.t 119)) [3,4],om_ 18 117 [2,0,1,2],om_ 19 120
 [5,6,0,1,2,3,4,5,6]]) (.seq (.reg false [om_ 121 12 [],oo_ 122 (.bin .quo (.t 121) (.d (.int .i64 8))) [0],om_ 20 122 [1,0,1]]) (.seq (.reg false [om_ 123 18 [],om_ 124 19 [],oo_ 125 (.bin .lss (.t 123) (.t 124))
 [0,1]]) (.cond (.t 125) (.seq (.reg false [om_ 126 18 [],om_ 127 20 [],oo_ 128 (.bin .geq (.t 126) (.t 127)) [0,1],om_ 10 128 [2,0,1,2]]) (.seq (.reg false [om_ 129 0 [],om_ 130 1 [],om_ 131 16 [],om_ 132 3 [],om_ 133 4
 [],oo_ 134 (.call 214 [(.t 129),(.t 130),(.t 131),(.t 132),(.t 133)]) [0,1,2,3,4]]) (.reg false [om_ 135 16 [],oo_ 136 (.bin .add (.t 135) (.d (.int .i64 1))) [0],om_ 1 136 [1,0,1]]))) (.seq (.reg false [om_ 137 19
 [],om_ 138 20 [],oo_ 139 (.bin .geq (.t 137) (.t 138)) [0,1],om_ 10 139 [2,0,1,2]]) (.seq (.reg false [om_ 140 0 [],om_ 141 16 [],oo_ 142 (.bin .add (.t 141) (.d (.int .i64 1))) [1],om_ 143 2 [],om_ 144 3 [],om_ 145 4
 [],oo_ 146 (.call 214 [(.t 140),(.t 142),(.t 143),(.t 144),(.t 145)]) [0,2,3,4,5]]) (.reg false [om_ 147 16 [],om_ 2 147 [0,0]]))))))))))))))))))))))
theorem o_e3 : fnOf Tryz.prog o_e1 = some (o_e2, [], 148, false) := by kernel_rfl

abbrev o_e4 : FuncId := 215
def o_e5 : C := (.seq (.reg false [oo_ 2 (.mv (.d (.int .i64 0))) []]) (.seq (.reg false [oo_ 3 (.mv (.d (.int .i64 0))) []]) (.seq (.seq (.reg false [om_ 6 0 [],oo_ 7 (.len (.t 6)) [0],oo_ 8 (.mv (.d (.int .i64 0))) []]) (.block 0
 (.loop (.seq (.reg false [oo_ 9 (.bin .lss (.t 8) (.t 7)) []]) (.seq (.cond (.t 9) .skip (.exit 0)) (.seq (.block 1 (.seq (.reg false [oo_ 10 (.ix 1 (.t 6) (.t 8)) [],oo_ 11 (.load false 1 (.t 10)) [0],om_ 5 11
 [1,0,1]]) (.seq (.reg false [om_ 12 5 [],om_ 13 3 [],oo_ 14 (.bin .neq (.t 12) (.t 13)) [0,1]]) (.cond (.t 14) (.seq (.reg false [om_ 15 5 [],om_ 2 15 [0,0]]) .ret) .skip)))) (.reg false [oo_ 16 (.bin .add (.t 8) (.d
 (.int .i64 1))) [],om_ 8 16 [0]]))))))) (.seq (.reg false [om_ 17 3 [],om_ 2 17 [0,0]]) .ret))))
theorem o_e6 : fnOf Tryz.prog o_e4 = some (o_e5, [.t 2], 18, false) := by kernel_rfl

abbrev o_e7 : FuncId := 216
def o_e8 : C := (.seq (.reg false [oo_ 4 (.mv (.d (.int .i64 0))) []]) (.seq (.reg false [om_ 7 0 [],oo_ 8 (.call 246 [(.t 7)]) [0],om_ 5 8 [1,1,0,1]]) (.seq (.reg false [om_ 9 1 [],oo_ 10 (.call 246 [(.t 9)]) [0],om_ 6 10 [1,1,0,1]])
 (.seq (.seq (.reg false [om_ 11 5 []]) (.cond (.t 11) (.seq (.seq (.reg false [om_ 12 6 []]) (.cond (.t 12) (.seq (.reg false [oo_ 4 (.mv (.d (.int .i64 0))) []]) .ret) .skip)) (.seq (.reg false [oo_ 4 (.mv (.d (.int
 .i64 (-1)))) []]) .ret)) .skip)) (.seq (.seq (.reg false [om_ 13 6 []]) (.cond (.t 13) (.seq (.reg false [oo_ 4 (.mv (.d (.int .i64 1))) []]) .ret) .skip)) (.seq (.seq (.reg false [om_ 14 0 [],om_ 15 1 [],oo_ 16 (.bin
 .lss (.t 14) (.t 15)) [0,1]]) (.cond (.t 16) (.seq (.reg false [oo_ 4 (.mv (.d (.int .i64 (-1)))) []]) .ret) .skip)) (.seq (.seq (.reg false [om_ 17 0 [],om_ 18 1 [],oo_ 19 (.bin .gtr (.t 17) (.t 18)) [0,1]]) (.cond (.t
 19) (.seq (.reg false [oo_ 4 (.mv (.d (.int .i64 1))) []]) .ret) .skip)) (.seq (.reg false [oo_ 4 (.mv (.d (.int .i64 0))) []]) .ret))))))))
theorem o_e9 : fnOf Tryz.prog o_e7 = some (o_e8, [.t 4], 20, false) := by kernel_rfl

abbrev o_ea : FuncId := 217
def o_eb : C := (.seq (.reg false [oo_ 2 (.mv (.d (.int .i64 0))) []]) (.seq (.seq (.reg false [om_ 3 0 []]) (.cond (.t 3) (.seq (.reg false [oo_ 2 (.mv (.d (.int .i64 1))) []]) .ret) .skip)) (.seq (.reg false [oo_ 2 (.mv (.d (.int
 .i64 0))) []]) .ret)))
theorem o_ec : fnOf Tryz.prog o_ea = some (o_eb, [.t 2], 4, false) := by kernel_rfl

abbrev o_ed : FuncId := 218
def o_ee : C := (.seq (.reg false [oo_ 3 (.box 78 (.t 0)) [],oo_ 4 (.mv .bad) []]) (.seq (.reg true [oo_ 10 (.load true 3 (.t 1)) [],oo_ 11 (.call 176 [(.t 10)]) [0],oo_ 12 (.fa 0 (.t 3)) [],oo_ 13 (.load false 1 (.t 12)) [2],oo_ 14
 (.call 177 [(.t 11),(.t 13)]) [1,3,1],om_ 9 14 [4],oo_ 15 (.ext (.t 9) 0) [5],oo_ 16 (.ext (.t 9) 1) [5],oo_ 5 (.new 29 [.nilsl,(.bool false),.nilsl]) [],on_ (.store 3 (.t 5) (.t 15)) [8,6,4,0,1,2,3,4,5,6,8],om_ 6 16
 [7,9,0,1,2,3,4,5,6,7,8,9]]) (.seq (.reg false [oo_ 18 (.load true 3 (.t 5)) [],oo_ 19 (.load true 3 (.t 2)) [],oo_ 20 (.call 20 [(.t 18),(.t 19)]) [0,1],om_ 17 20 [2],oo_ 21 (.ext (.t 17) 0) [3],oo_ 22 (.ext (.t 17) 1)
 [3],oo_ 7 (.new 29 [.nilsl,(.bool false),.nilsl]) [],on_ (.store 3 (.t 7) (.t 21)) [6,4,2,0,1,2,3,4,6],om_ 8 22 [5,7,0,1,2,3,4,5,6,7]]) (.seq (.reg false [oo_ 23 (.load true 3 (.t 1)) [],oo_ 24 (.load true 3 (.t 3))
 [],oo_ 25 (.load true 3 (.t 7)) [],oo_ 26 (.call 178 [(.t 23),(.t 24),(.t 25)]) [0,1,2],om_ 4 26 [3,3,0,1,2,3]]) .ret))))
theorem o_ef : fnOf Tryz.prog o_ed = some (o_ee, [.t 4], 27, false) := by kernel_rfl

abbrev o_eg : FuncId := 219
def o_eh : C := (.seq (.reg false [oo_ 2 (.box 78 (.t 0)) [],oo_ 3 (.mv .bad) []]) (.seq (.reg false [oo_ 4 (.fa 2 (.t 2)) [],oo_ 5 (.load false 1 (.t 4)) [0],om_ 6 5 [1],og_ 7 (.fa 2 (.t 1)) 6 false [2],og_ 8 (.load false 1 (.t 7)) 6
 false [3,2],oo_ 9 (.pick (.t 6) (.d (.bool true)) (.t 8)) [2,4],oo_ 10 (.fa 2 (.t 2)) [0,1,2,3,4,5],on_ (.store 1 (.t 10) (.t 9)) [6,5,2,0,1,2,3,4,5]]) (.seq (.reg false [oo_ 11 (.load true 3 (.t 2)) [],oo_ 12 (.call
 102 [(.t 11)]) [0],om_ 3 12 [1,1,0,1]]) .ret)))
theorem o_ei : fnOf Tryz.prog o_eg = some (o_eh, [.t 3], 13, false) := by kernel_rfl

abbrev o_ej : FuncId := 225
def o_ek : C := (.seq (.reg false [oo_ 2 (.mv (.d (.int .i64 0))) []]) (.seq (.reg false [om_ 3 0 [],oo_ 4 (.call 206 [(.t 3)]) [0],oo_ 5 (.bin .sub (.d (.int .i64 64)) (.t 4)) [1],om_ 2 5 [2,1,0,1,2]]) .ret))
theorem o_el : fnOf Tryz.prog o_ej = some (o_ek, [.t 2], 6, false) := by kernel_rfl

abbrev o_em : FuncId := 226
def o_en : C := (.seq (.reg false [⟨some 2,.mv (.d (.str ⟨#[]⟩)),none,[]⟩]) (.seq (.seq (.reg false [om_ 3 0 [],oo_ 4 (.bin .lss (.t 3) (.d (.int .i64 10))) [0]]) (.cond (.t 4) (.seq (.reg false [om_ 5 0 [],om_ 6 0 [],oo_ 7 (.bin .add
 (.t 6) (.d (.int .i64 1))) [1],⟨some 8,.sstr (.d (.str ⟨#[48,49,50,51,52,53,54,55,56,57,97,98,99,100,101,102,103,104,105,106,107,108,109,110,111,112,113,114,115,116,117,118,119,120,121,122]⟩)) (some (.t 5)) (some (.t
 7)),none,[0,2]⟩,om_ 2 8 [3,0,1,2,3]]) .ret) .skip)) (.seq (.reg false [om_ 9 0 [],oo_ 10 (.bin .mul (.t 9) (.d (.int .i64 2))) [0],om_ 11 0 [],oo_ 12 (.bin .mul (.t 11) (.d (.int .i64 2))) [2],oo_ 13 (.bin .add (.t 12)
 (.d (.int .i64 2))) [3],⟨some 14,.sstr (.d (.str
 ⟨#[48,48,48,49,48,50,48,51,48,52,48,53,48,54,48,55,48,56,48,57,49,48,49,49,49,50,49,51,49,52,49,53,49,54,49,55,49,56,49,57,50,48,50,49,50,50,50,51,50,52,50,53,50,54,50,55,50,56,50,57,51,48,51,49,51,50,51,51,51,52,51,53,51,54,51,55,51,56,51,57,52,48,52,49,52,50,52,51,52,52,52,53,52,54,52,55,52,56,52,57,53,48,53,49,53,50,53,51,53,52,53,53,53,54,53,55,53,56,53,57,54,48,54,49,54,50,54,51,54,52,54,53,54,54,54,55,54,56,54,57,55,48,55,49,55,50,55,51,55,52,55,53,55,54,55,55,55,56,55,57,56,48,56,49,56,50,56,51,56,52,56,53,56,54,56,55,56,56,56,57,57,48,57,49,57,50,57,51,57,52,57,53,57,54,57,55,57,56,57,57]⟩)) (some (.t 10)) (some (.t 13)),none,[1,4]⟩,om_ 2 14 [5,0,1,2,3,4,5]]) .ret)))
theorem o_eo : fnOf Tryz.prog o_em = some (o_en, [.t 2], 15, false) := by kernel_rfl

abbrev o_ep : FuncId := 234
def o_eq : C := (.seq (.reg false [oo_ 4 (.mv (.d .nilsl)) []]) (.seq (.reg false [om_ 8 0 [],oo_ 9 (.len (.t 8)) [0],oo_ 10 (.bin .add (.t 9) (.d (.int .i64 1))) [1],oo_ 11 (.mksl 194 1 8 [(.int .u64 0)] (.t 10) (.t 10)) [2,2],om_ 5
 11 [3,0,1,2,3]]) (.seq (.seq (.reg false [om_ 12 0 [],oo_ 13 (.len (.t 12)) [0],oo_ 14 (.mv (.d (.int .i64 0))) []]) (.block 0 (.loop (.seq (.reg false [oo_ 15 (.bin .lss (.t 14) (.t 13)) []]) (.seq (.cond (.t 15) .skip
 (.exit 0)) (.seq (.block 1 (.seq (.reg false [om_ 16 14 [],oo_ 17 (.ix 1 (.t 12) (.t 14)) [],oo_ 18 (.load false 1 (.t 17)) [1],om_ 6 16 [0,0,1,2],om_ 7 18 [2,3,0,1,2,3]]) (.seq (.reg true [om_ 19 5 [],om_ 20 6 [],oo_
 21 (.ix 1 (.t 19) (.t 20)) [0,1],oo_ 22 (.load false 1 (.t 21)) [2],om_ 23 7 [],om_ 24 1 [],oo_ 25 (.bin .shl (.t 23) (.t 24)) [4,5],oo_ 26 (.bin .or (.t 22) (.t 25)) [3,6],oo_ 27 (.ix 1 (.t 19) (.t 20))
 [0,1,0,1,2,3,4,5,6,7],on_ (.store 1 (.t 27) (.t 26)) [8,7,0,1,2,3,4,5,6,7]]) (.reg false [om_ 28 5 [],om_ 29 6 [],oo_ 30 (.bin .add (.t 29) (.d (.int .i64 1))) [1],om_ 31 7 [],om_ 32 1 [],oo_ 33 (.bin .sub (.d (.int
 .i64 64)) (.t 32)) [4],oo_ 34 (.bin .shr (.t 31) (.t 33)) [3,5],oo_ 35 (.ix 1 (.t 28) (.t 30)) [0,2,0,1,2,3,4,5,6],on_ (.store 1 (.t 35) (.t 34)) [7,6,0,1,2,3,4,5,6]])))) (.reg false [oo_ 36 (.bin .add (.t 14) (.d (.int
 .i64 1))) [],om_ 14 36 [0]]))))))) (.seq (.reg false [om_ 37 5 [],om_ 4 37 [0,0]]) .ret))))
theorem o_er : fnOf Tryz.prog o_ep = some (o_eq, [.t 4], 38, false) := by kernel_rfl

abbrev o_es : FuncId := 235
def o_et : C := (.seq (.reg false [oo_ 4 (.mv (.d (.int .u64 0))) []]) (.seq (.reg false [om_ 11 1 [],oo_ 12 (.len (.t 11)) [0],om_ 5 12 [1,0,1]]) (.seq (.reg false [oo_ 6 (.mv (.d (.int .u64 18446744073709551615))) []]) (.seq (.seq
 (.reg true [om_ 13 0 [],om_ 14 5 [],oo_ 15 (.ix 1 (.t 13) (.t 14)) [0,1],oo_ 16 (.load false 1 (.t 15)) [2],om_ 17 1 [],om_ 18 5 [],oo_ 19 (.bin .sub (.t 18) (.d (.int .i64 1))) [5],oo_ 20 (.ix 1 (.t 17) (.t 19))
 [4,6],oo_ 21 (.load false 1 (.t 20)) [7],oo_ 22 (.bin .lss (.t 16) (.t 21)) [3,8]]) (.cond (.t 22) (.reg true [om_ 24 0 [],om_ 25 5 [],oo_ 26 (.ix 1 (.t 24) (.t 25)) [0,1],oo_ 27 (.load false 1 (.t 26)) [2],om_ 28 0
 [],om_ 29 5 [],oo_ 30 (.bin .sub (.t 29) (.d (.int .i64 1))) [5],oo_ 31 (.ix 1 (.t 28) (.t 30)) [4,6],oo_ 32 (.load false 1 (.t 31)) [7],om_ 33 1 [],om_ 34 5 [],oo_ 35 (.bin .sub (.t 34) (.d (.int .i64 1))) [10],oo_ 36
 (.ix 1 (.t 33) (.t 35)) [9,11],oo_ 37 (.load false 1 (.t 36)) [12],oo_ 38 (.call 193 [(.t 27),(.t 32),(.t 37)]) [3,8,13],om_ 23 38 [14],oo_ 39 (.ext (.t 23) 0) [15],oo_ 40 (.ext (.t 23) 1) [15],om_ 6 39
 [16,14,0,1,2,3,4,5,6,7,8,9,10,11,12,13,14,15,16]]) .skip)) (.seq (.seq (.reg false [om_ 41 0 [],om_ 42 1 [],om_ 43 6 [],oo_ 44 (.call 254 [(.t 41),(.t 42),(.t 43)]) [0,1,2],om_ 7 44 [3,3,0,1,2,3]]) (.block 0 (.loop
 (.seq (.seq (.reg false [om_ 45 7 [],oo_ 46 (.bin .gtr (.t 45) (.d (.int .i64 0))) [0]]) (.cond (.t 46) .skip (.exit 0))) (.seq (.block 1 (.seq (.reg false [om_ 49 6 [],oo_ 50 (.bin .sub (.t 49) (.d (.int .u64 1)))
 [0],om_ 6 50 [1,0,1]]) (.seq (.reg false [oo_ 8 (.mv (.d (.int .u64 0))) []]) (.seq (.seq (.reg false [om_ 51 1 [],oo_ 52 (.len (.t 51)) [0],oo_ 53 (.mv (.d (.int .i64 0))) []]) (.block 2 (.loop (.seq (.reg false [oo_
 54 (.bin .lss (.t 53) (.t 52)) []]) (.seq (.cond (.t 54) .skip (.exit 2)) (.seq (.block 3 (.seq (.reg false [om_ 55 53 [],oo_ 56 (.ix 1 (.t 51) (.t 53)) [],oo_ 57 (.load false 1 (.t 56)) [1],om_ 9 55 [0,0,1,2],om_ 10 57
 [2,3,0,1,2,3]]) (.reg false [om_ 59 0 [],om_ 60 9 [],om_ 61 0 [],om_ 62 9 [],oo_ 63 (.ix 1 (.t 61) (.t 62)) [2,3],oo_ 64 (.load false 1 (.t 63)) [4],om_ 65 10 [],om_ 66 8 [],oo_ 67 (.call 149 [(.t 64),(.t 65),(.t 66)])
 [5,6,7],om_ 58 67 [8],oo_ 68 (.ext (.t 58) 0) [9],oo_ 69 (.ext (.t 58) 1) [9],oo_ 70 (.ix 1 (.t 59) (.t 60)) [0,1,0,1,2,3,4,5,6,7,8,9,10],on_ (.store 1 (.t 70) (.t 68)) [12,10,8,0,1,2,3,4,5,6,7,8,9,10],om_ 8 69
 [11,13,0,1,2,3,4,5,6,7,8,9,10,11,12,13]]))) (.reg false [oo_ 71 (.bin .add (.t 53) (.d (.int .i64 1))) [],om_ 53 71 [0]]))))))) (.seq (.reg false [om_ 72 0 [],om_ 73 5 [],oo_ 74 (.ix 1 (.t 72) (.t 73)) [0,1],oo_ 75
 (.load false 1 (.t 74)) [2],om_ 76 8 [],oo_ 77 (.bin .add (.t 75) (.t 76)) [3,4],oo_ 78 (.ix 1 (.t 72) (.t 73)) [0,1,0,1,2,3,4,5],on_ (.store 1 (.t 78) (.t 77)) [6,5,0,1,2,3,4,5]]) (.seq (.reg false [om_ 79 0 [],om_ 80
 5 [],oo_ 81 (.ix 1 (.t 79) (.t 80)) [0,1],oo_ 82 (.load false 1 (.t 81)) [2],oo_ 83 (.bin .neq (.t 82) (.d (.int .u64 0))) [3]]) (.cond (.t 83) (.reg false [om_ 84 7 [],oo_ 85 (.bin .add (.t 84) (.d (.int .i64 1)))
 [0],om_ 7 85 [1,0,1]]) .skip))))))) (.reg false [om_ 47 7 [],oo_ 48 (.bin .sub (.t 47) (.d (.int .i64 1))) [0],om_ 7 48 [1,0,1]])))))) (.seq (.reg false [om_ 86 6 [],om_ 4 86 [0,0]]) .ret))))))
theorem o_eu : fnOf Tryz.prog o_es = some (o_et, [.t 4], 87, false) := by kernel_rfl

abbrev o_ev : FuncId := 236
def o_ew : C := (.seq (.reg false [oo_ 2 (.box 25 (.t 0)) [],oo_ 4 (.new 25 [.nilsl]) []]) (.seq (.reg false [om_ 8 1 [],oo_ 9 (.mm true [(.d (.int .i64 0)),(.t 8)]) [0],om_ 1 9 [1,0,1]]) (.seq (.seq (.reg false [om_ 10 1 [],oo_ 11
 (.bin .quo (.t 10) (.d (.int .i64 64))) [0],oo_ 12 (.fa 0 (.t 2)) [],oo_ 13 (.load false 1 (.t 12)) [2],oo_ 14 (.len (.t 13)) [3],oo_ 15 (.bin .geq (.t 11) (.t 14)) [1,4]]) (.cond (.t 15) (.seq (.reg false [oo_ 16
 (.build [.nilsl] []) [],on_ (.store 1 (.t 4) (.t 16)) [0,0]]) .ret) .skip)) (.seq (.reg false [oo_ 17 (.fa 0 (.t 2)) [],oo_ 18 (.load false 1 (.t 17)) [0],om_ 19 1 [],oo_ 20 (.bin .quo (.t 19) (.d (.int .i64 64)))
 [2],oo_ 21 (.slice 1 (.t 18) (some (.t 20)) none none) [1,3],oo_ 22 (.call 192 [(.t 21)]) [4],om_ 5 22 [5,5,0,1,2,3,4,5]]) (.seq (.seq (.reg false [om_ 23 1 [],oo_ 24 (.bin .rem (.t 23) (.d (.int .i64 64))) [0],oo_ 6
 (.mv (.d (.int .i64 0))) [],om_ 7 24 [1,2,0,1,2]]) (.block 0 (.loop (.seq (.seq (.reg false [om_ 25 6 [],om_ 26 5 [],oo_ 27 (.len (.t 26)) [1],oo_ 28 (.bin .lss (.t 25) (.t 27)) [0,2]]) (.cond (.t 28) .skip (.exit 0)))
 (.seq (.block 1 (.seq (.reg false [om_ 31 5 [],om_ 32 6 [],oo_ 33 (.ix 1 (.t 31) (.t 32)) [0,1],oo_ 34 (.load false 1 (.t 33)) [2],om_ 35 7 [],oo_ 36 (.bin .shr (.t 34) (.t 35)) [3,4],oo_ 37 (.ix 1 (.t 31) (.t 32))
 [0,1,0,1,2,3,4,5],on_ (.store 1 (.t 37) (.t 36)) [6,5,0,1,2,3,4,5]]) (.seq (.reg false [om_ 38 6 [],oo_ 39 (.bin .add (.t 38) (.d (.int .i64 1))) [0],om_ 40 5 [],oo_ 41 (.len (.t 40)) [2],oo_ 42 (.bin .lss (.t 39) (.t
 41)) [1,3]]) (.cond (.t 42) (.reg true [om_ 43 5 [],om_ 44 6 [],oo_ 45 (.ix 1 (.t 43) (.t 44)) [0,1],oo_ 46 (.load false 1 (.t 45)) [2],om_ 47 5 [],om_ 48 6 [],oo_ 49 (.bin .add (.t 48) (.d (.int .i64 1))) [5],oo_ 50
 (.ix 1 (.t 47) (.t 49)) [4,6],oo_ 51 (.load false 1 (.t 50)) [7],om_ 52 7 [],oo_ 53 (.bin .sub (.d (.int .i64 64)) (.t 52)) [9],oo_ 54 (.bin .shl (.t 51) (.t 53)) [8,10],oo_ 55 (.bin .or (.t 46) (.t 54)) [3,11],oo_ 56
 (.ix 1 (.t 43) (.t 44)) [0,1,0,1,2,3,4,5,6,7,8,9,10,11,12],on_ (.store 1 (.t 56) (.t 55)) [13,12,0,1,2,3,4,5,6,7,8,9,10,11,12]]) .skip)))) (.reg false [om_ 29 6 [],oo_ 30 (.bin .add (.t 29) (.d (.int .i64 1))) [0],om_ 6
 30 [1,0,1]])))))) (.seq (.reg false [om_ 57 5 [],oo_ 58 (.call 141 [(.t 57)]) [0],on_ (.store 1 (.t 4) (.t 58)) [1,1,0,1]]) .ret))))))
theorem o_ex : fnOf Tryz.prog o_ev = some (o_ew, [.cell 4 true 1], 59, false) := by kernel_rfl

abbrev o_ey : FuncId := 237
def o_ez : C := (.seq (.reg false [oo_ 2 (.box 25 (.t 0)) [],oo_ 4 (.new 25 [.nilsl]) [],oo_ 5 (.mv (.d (.int .i64 0))) []]) (.seq (.seq (.reg false [om_ 6 1 [],oo_ 7 (.bin .lss (.t 6) (.d (.int .i64 0))) [0],om_ 8 7 [1],og_ 9 (.mv (.t
 1)) 8 false [2],og_ 10 (.bin .gtr (.t 9) (.d (.int .i64 8192))) 8 false [3,2],oo_ 11 (.pick (.t 8) (.d (.bool true)) (.t 10)) [2,4]]) (.cond (.t 11) (.seq (.reg false [oo_ 12 (.build [.nilsl] []) [],on_ (.store 1 (.t 4)
 (.t 12)) [0,0],oo_ 5 (.mv (.d (.int .i64 2))) [1,0,1]]) .ret) .skip)) (.seq (.reg true [om_ 13 1 [],oo_ 14 (.bin .quo (.t 13) (.d (.int .i64 64))) [0],oo_ 15 (.mksl 194 1 8 [(.int .u64 0)] (.t 14) (.t 14)) [1,1],oo_ 16
 (.fa 0 (.t 2)) [],oo_ 17 (.load false 1 (.t 16)) [3],om_ 18 1 [],oo_ 19 (.bin .rem (.t 18) (.d (.int .i64 64))) [5],oo_ 20 (.call 234 [(.t 17),(.t 19)]) [4,6],oo_ 21 (.app 194 1 8 (.t 15) (.t 20)) [2,7,7],oo_ 22 (.call
 141 [(.t 21)]) [8,8],on_ (.store 1 (.t 4) (.t 22)) [9,9,0,1,2,3,4,5,6,7,8,9],oo_ 5 (.mv (.d (.int .i64 0))) [10,0,1,2,3,4,5,6,7,8,9,10]]) .ret)))
theorem o_f0 : fnOf Tryz.prog o_ey = some (o_ez, [.cell 4 true 1, .t 5], 23, false) := by kernel_rfl

abbrev o_f1 : FuncId := 238
def o_f2 : C := (.seq (.reg false [om_ 10 1 [],oo_ 11 (.bin .add (.t 10) (.d (.int .i64 1))) [0],om_ 8 11 [1,0,1]]) (.block 0 (.loop (.seq (.seq (.reg false [om_ 12 8 [],om_ 13 2 [],oo_ 14 (.bin .lss (.t 12) (.t 13)) [0,1]]) (.cond (.t
 14) .skip (.exit 0))) (.seq (.block 1 (.seq (.reg false [om_ 17 8 [],om_ 9 17 [0,0]]) (.block 2 (.loop (.seq (.seq (.reg true [om_ 18 9 [],om_ 19 1 [],oo_ 20 (.bin .gtr (.t 18) (.t 19)) [0,1],om_ 21 20 [2],og_ 22 (.mv
 (.t 3)) 21 true [3],og_ 23 (.mv (.t 0)) 21 true [3],og_ 24 (.mv (.t 9)) 21 true [3],og_ 25 (.ix 6 (.t 23) (.t 24)) 21 true [5,6,3],og_ 26 (.load true 6 (.t 25)) 21 true [7,3],og_ 27 (.mv (.t 0)) 21 true [3],og_ 28 (.mv
 (.t 9)) 21 true [3],og_ 29 (.bin .sub (.t 28) (.d (.int .i64 1))) 21 true [10,3],og_ 30 (.ix 6 (.t 27) (.t 29)) 21 true [9,11,3],og_ 31 (.load true 6 (.t 30)) 21 true [12,3],og_ 32 (.callv (.t 22) [(.t 26),(.t 31)]) 21
 true [4,8,13,3,3],og_ 33 (.bin .lss (.t 32) (.d (.int .i64 0))) 21 true [14,3],oo_ 34 (.pick (.t 21) (.t 33) (.d (.bool false))) [3,15]]) (.cond (.t 34) .skip (.exit 2))) (.seq (.block 3 (.reg true [om_ 37 0 [],om_ 38 9
 [],om_ 39 0 [],om_ 40 9 [],oo_ 41 (.bin .sub (.t 40) (.d (.int .i64 1))) [3],om_ 42 0 [],om_ 43 9 [],oo_ 44 (.bin .sub (.t 43) (.d (.int .i64 1))) [6],oo_ 45 (.ix 6 (.t 42) (.t 44)) [5,7],oo_ 46 (.load true 6 (.t 45))
 [8],om_ 47 0 [],om_ 48 9 [],oo_ 49 (.ix 6 (.t 47) (.t 48)) [10,11],oo_ 50 (.load true 6 (.t 49)) [12],oo_ 51 (.ix 6 (.t 37) (.t 38)) [0,1,0,1,5,6,7,8,9,13],on_ (.store 6 (.t 51) (.t 46)) [14,9,0,1,5,6,7,8,9,13],oo_ 52
 (.ix 6 (.t 39) (.t 41)) [2,4,0,1,2,3,4,5,6,7,8,9,10,11,12,13,14,15],on_ (.store 6 (.t 52) (.t 50)) [16,13,15,0,1,2,3,4,5,6,7,8,9,10,11,12,13,14,15]])) (.reg false [om_ 35 9 [],oo_ 36 (.bin .sub (.t 35) (.d (.int .i64
 1))) [0],om_ 9 36 [1,0,1]]))))))) (.reg false [om_ 15 8 [],oo_ 16 (.bin .add (.t 15) (.d (.int .i64 1))) [0],om_ 8 16 [1,0,1]]))))))
theorem o_f3 : fnOf Tryz.prog o_f1 = some (o_f2, [], 53, false) := by kernel_rfl

abbrev o_f4 : FuncId := 246
def o_f5 : C := (.seq (.reg false [oo_ 2 (.mv (.d (.bool false))) []]) (.seq (.reg false [om_ 3 0 [],om_ 4 0 [],oo_ 5 (.bin .neq (.t 3) (.t 4)) [0,1],om_ 2 5 [2,0,1,2]]) .ret))
theorem o_f6 : fnOf Tryz.prog o_f4 = some (o_f5, [.t 2], 6, false) := by kernel_rfl

abbrev o_f7 : FuncId := 254
def o_f8 : C := (.seq (.reg false [oo_ 6 (.mv (.d (.int .i64 0))) []]) (.seq (.reg false [oo_ 7 (.mv (.d (.int .u64 0))) [],oo_ 8 (.mv (.d (.int .u64 0))) [0]]) (.seq (.seq (.reg false [om_ 15 1 [],oo_ 16 (.len (.t 15)) [0],oo_ 17 (.mv
 (.d (.int .i64 0))) []]) (.block 0 (.loop (.seq (.reg false [oo_ 18 (.bin .lss (.t 17) (.t 16)) []]) (.seq (.cond (.t 18) .skip (.exit 0)) (.seq (.block 1 (.seq (.reg false [om_ 19 17 [],oo_ 20 (.ix 1 (.t 15) (.t 17))
 [],oo_ 21 (.load false 1 (.t 20)) [1],om_ 9 19 [0,0,1,2],om_ 10 21 [2,3,0,1,2,3]]) (.seq (.reg false [om_ 23 10 [],om_ 24 2 [],oo_ 25 (.call 148 [(.t 23),(.t 24)]) [0,1],om_ 22 25 [2],oo_ 26 (.ext (.t 22) 0) [3],oo_ 27
 (.ext (.t 22) 1) [3],om_ 11 26 [4,2,0,1,2,3,4],om_ 12 27 [5,6,0,1,2,3,4,5,6]]) (.seq (.reg false [oo_ 13 (.mv (.d (.int .u64 0))) []]) (.seq (.reg false [om_ 29 12 [],om_ 30 7 [],oo_ 31 (.call 149 [(.t 29),(.t 30),(.d
 (.int .u64 0))]) [0,1],om_ 28 31 [2],oo_ 32 (.ext (.t 28) 0) [3],oo_ 33 (.ext (.t 28) 1) [3],om_ 12 32 [4,2,0,1,2,3,4],om_ 13 33 [5,6,0,1,2,3,4,5,6]]) (.seq (.reg false [om_ 34 11 [],om_ 35 13 [],oo_ 36 (.bin .add (.t
 34) (.t 35)) [0,1],om_ 7 36 [2,0,1,2]]) (.reg false [om_ 38 0 [],om_ 39 9 [],om_ 40 0 [],om_ 41 9 [],oo_ 42 (.ix 1 (.t 40) (.t 41)) [2,3],oo_ 43 (.load false 1 (.t 42)) [4],om_ 44 12 [],om_ 45 8 [],oo_ 46 (.call 202
 [(.t 43),(.t 44),(.t 45)]) [5,6,7],om_ 37 46 [8],oo_ 47 (.ext (.t 37) 0) [9],oo_ 48 (.ext (.t 37) 1) [9],oo_ 49 (.ix 1 (.t 38) (.t 39)) [0,1,0,1,2,3,4,5,6,7,8,9,10],on_ (.store 1 (.t 49) (.t 47))
 [12,10,8,0,1,2,3,4,5,6,7,8,9,10],om_ 8 48 [11,13,0,1,2,3,4,5,6,7,8,9,10,11,12,13]]))))))) (.reg false [oo_ 50 (.bin .add (.t 17) (.d (.int .i64 1))) [],om_ 17 50 [0]]))))))) (.seq (.reg false [om_ 51 1 [],oo_ 52 (.len
 (.t 51)) [0],om_ 14 52 [1,0,1]]) (.seq (.reg false [om_ 54 0 [],om_ 55 14 [],om_ 56 0 [],om_ 57 14 [],oo_ 58 (.ix 1 (.t 56) (.t 57)) [2,3],oo_ 59 (.load false 1 (.t 58)) [4],om_ 60 7 [],om_ 61 8 [],oo_ 62 (.call 202
 [(.t 59),(.t 60),(.t 61)]) [5,6,7],om_ 53 62 [8],oo_ 63 (.ext (.t 53) 0) [9],oo_ 64 (.ext (.t 53) 1) [9],oo_ 65 (.ix 1 (.t 54) (.t 55)) [0,1,0,1,2,3,4,5,6,7,8,9,10],on_ (.store 1 (.t 65) (.t 63))
 [12,10,8,0,1,2,3,4,5,6,7,8,9,10],om_ 8 64 [11,13,0,1,2,3,4,5,6,7,8,9,10,11,12,13]]) (.seq (.reg false [om_ 66 8 [],oo_ 67 (.conv .i64 (.t 66)) [0],om_ 6 67 [1,0,1]]) .ret))))))
theorem o_f9 : fnOf Tryz.prog o_f7 = some (o_f8, [.t 6], 68, false) := by kernel_rfl

abbrev o_fa : FuncId := 281
def o_fb : C := (.seq (.reg false [oo_ 4 (.new 29 [.nilsl,(.bool false),.nilsl]) [],oo_ 5 (.mv (.d (.int .i64 0))) []]) (.seq (.reg false [om_ 6 0 [],om_ 7 1 [],oo_ 8 (.call 15 [(.t 6),(.t 7)]) [0,1],oo_ 9 (.ext (.t 8) 0) [2],oo_ 10
 (.ext (.t 8) 1) [2],on_ (.store 3 (.t 4) (.t 9)) [3,2,0,1,2,3,4],om_ 5 10 [4,5,0,1,2,3,4,5]]) .ret))
theorem o_fc : fnOf Tryz.prog o_fa = some (o_fb, [.cell 4 true 3, .t 5], 11, false) := by kernel_rfl

abbrev o_fd : FuncId := 282
def o_fe : C := (.seq (.reg false [oo_ 2 (.mv (.d (.bool false))) []]) (.seq (.reg false [om_ 3 0 [],oo_ 4 (.call 18 [(.t 3)]) [0],om_ 2 4 [1,1,0,1]]) .ret))
theorem o_ff : fnOf Tryz.prog o_fd = some (o_fe, [.t 2], 5, false) := by kernel_rfl

abbrev o_fg : FuncId := 293
def o_fh : C := (.seq (.reg false [oo_ 4 (.new 29 [.nilsl,(.bool false),.nilsl]) [],oo_ 5 (.mv (.d (.int .i64 0))) []]) (.seq (.reg false [om_ 6 0 [],om_ 7 1 [],oo_ 8 (.call 299 [(.t 6),(.t 7)]) [0,1],oo_ 9 (.ext (.t 8) 0) [2],oo_ 10
 (.ext (.t 8) 1) [2],on_ (.store 3 (.t 4) (.t 9)) [3,2,0,1,2,3,4],om_ 5 10 [4,5,0,1,2,3,4,5]]) .ret))
theorem o_fi : fnOf Tryz.prog o_fg = some (o_fh, [.cell 4 true 3, .t 5], 11, false) := by kernel_rfl

abbrev o_fj : FuncId := 294
def o_fk : C := (.seq (.reg false [oo_ 2 (.mv (.d (.bool false))) []]) (.seq (.reg false [om_ 3 0 [],oo_ 4 (.call 300 [(.t 3)]) [0],om_ 2 4 [1,1,0,1]]) .ret))
theorem o_fl : fnOf Tryz.prog o_fj = some (o_fk, [.t 2], 5, false) := by kernel_rfl

abbrev o_fm : FuncId := 299
def o_fn : C := (.seq (.reg false [oo_ 4 (.new 29 [.nilsl,(.bool false),.nilsl]) [],oo_ 5 (.mv (.d (.int .i64 0))) []]) (.seq (.seq (.reg false [om_ 9 0 [],om_ 10 1 [],oo_ 11 (.bsl 3 1 1 [(.int .i64 0)] [(0,1,(.t 10))]) [1],oo_ 12
 (.call 303 [(.t 9),(.t 11)]) [0,2],om_ 6 12 [3,3,0,1,2,3]]) (.seq (.reg false [om_ 13 6 [],oo_ 14 (.bin .neq (.t 13) (.d (.int .i64 0))) [0]]) (.cond (.t 14) (.seq (.reg false [oo_ 15 (.build [.nilsl,(.bool
 false),.nilsl] []) [],om_ 16 6 [],on_ (.store 3 (.t 4) (.t 15)) [0,0],om_ 5 16 [1,2,0,1,2]]) .ret) .skip))) (.seq (.reg false [om_ 18 0 [],om_ 19 1 [],oo_ 20 (.call 304 [(.t 18),(.t 19)]) [0,1],om_ 17 20 [2],oo_ 21
 (.ext (.t 17) 0) [3],oo_ 22 (.ext (.t 17) 1) [3],om_ 7 21 [4,2,0,1,2,3,4],om_ 8 22 [5,6,0,1,2,3,4,5,6]]) (.seq (.reg false [om_ 23 7 [],oo_ 24 (.call 211 [(.t 23)]) [0],oo_ 25 (.ext (.t 24) 0) [1],oo_ 26 (.ext (.t 24)
 1) [1],on_ (.store 3 (.t 4) (.t 25)) [2,1,0,1,2,3],om_ 5 26 [3,4,0,1,2,3,4]]) .ret))))
theorem o_fo : fnOf Tryz.prog o_fm = some (o_fn, [.cell 4 true 3, .t 5], 27, false) := by kernel_rfl

abbrev o_fp : FuncId := 300
def o_fq : C := (.seq (.reg false [oo_ 2 (.mv (.d (.bool false))) []]) (.seq (.reg false [om_ 3 0 [],oo_ 4 (.bin .geq (.t 3) (.d (.int .i64 0))) [0],om_ 5 4 [1],og_ 6 (.mv (.t 0)) 5 true [2],og_ 7 (.bin .leq (.t 6) (.d (.int .i64 8)))
 5 true [3,2],oo_ 8 (.pick (.t 5) (.t 7) (.d (.bool false))) [2,4],om_ 2 8 [5,2,0,1,2,3,4,5]]) .ret))
theorem o_fr : fnOf Tryz.prog o_fp = some (o_fq, [.t 2], 9, false) := by kernel_rfl

abbrev o_fs : FuncId := 303
def o_ft : C := (.seq (.reg false [oo_ 4 (.mv (.d (.int .i64 0))) []]) (.seq (.seq (.reg false [om_ 7 0 [],oo_ 8 (.call 300 [(.t 7)]) [0],oo_ 9 (.un .not (.t 8)) [1]]) (.cond (.t 9) (.seq (.reg false [oo_ 4 (.mv (.d (.int .i64 10)))
 []]) .ret) .skip)) (.seq (.seq (.reg false [om_ 10 1 [],oo_ 11 (.len (.t 10)) [0],oo_ 12 (.mv (.d (.int .i64 0))) []]) (.block 0 (.loop (.seq (.reg false [oo_ 13 (.bin .lss (.t 12) (.t 11)) []]) (.seq (.cond (.t 13)
 .skip (.exit 0)) (.seq (.block 1 (.seq (.reg false [oo_ 14 (.ix 1 (.t 10) (.t 12)) [],oo_ 15 (.load false 1 (.t 14)) [0],om_ 6 15 [1,0,1]]) (.seq (.reg false [om_ 16 6 [],oo_ 17 (.bin .lss (.t 16) (.d (.int .i64 0)))
 [0],om_ 18 17 [1],og_ 19 (.mv (.t 6)) 18 false [2],og_ 20 (.bin .gtr (.t 19) (.d (.int .i64 1023))) 18 false [3,2],oo_ 21 (.pick (.t 18) (.d (.bool true)) (.t 20)) [2,4]]) (.cond (.t 21) (.seq (.reg false [oo_ 4 (.mv
 (.d (.int .i64 2))) []]) .ret) .skip)))) (.reg false [oo_ 22 (.bin .add (.t 12) (.d (.int .i64 1))) [],om_ 12 22 [0]]))))))) (.seq (.reg false [oo_ 4 (.mv (.d (.int .i64 0))) []]) .ret))))
theorem o_fu : fnOf Tryz.prog o_fs = some (o_ft, [.t 4], 23, false) := by kernel_rfl

abbrev o_fv : FuncId := 304
def o_fw : C := (.seq (.reg false [oo_ 4 (.mv (.d (.int .i64 0))) [],oo_ 5 (.mv (.d (.int .i64 0))) [0]]) (.seq (.reg true [om_ 6 1 [],om_ 7 0 [],oo_ 8 (.bin .shr (.t 6) (.t 7)) [0,1],om_ 9 1 [],om_ 10 0 [],oo_ 11 (.bin .shl (.d (.int
 .i64 1)) (.t 10)) [4],oo_ 12 (.bin .sub (.t 11) (.d (.int .i64 1))) [5],oo_ 13 (.bin .and (.t 9) (.t 12)) [3,6],om_ 4 8 [2,0,1,2],om_ 5 13 [7,8,0,1,2,3,4,5,6,7,8]]) .ret))
theorem o_fx : fnOf Tryz.prog o_fv = some (o_fw, [.t 4, .t 5], 14, false) := by kernel_rfl

abbrev o_fy : FuncId := 306
def o_fz : C := (.seq (.reg false [oo_ 4 (.new 29 [.nilsl,(.bool false),.nilsl]) [],oo_ 5 (.mv (.d (.int .i64 0))) []]) (.seq (.reg false [om_ 6 0 [],om_ 7 1 [],oo_ 8 (.call 312 [(.t 6),(.t 7)]) [0,1],oo_ 9 (.ext (.t 8) 0) [2],oo_ 10
 (.ext (.t 8) 1) [2],on_ (.store 3 (.t 4) (.t 9)) [3,2,0,1,2,3,4],om_ 5 10 [4,5,0,1,2,3,4,5]]) .ret))
theorem o_g0 : fnOf Tryz.prog o_fy = some (o_fz, [.cell 4 true 3, .t 5], 11, false) := by kernel_rfl

abbrev o_g1 : FuncId := 307
def o_g2 : C := (.seq (.reg false [oo_ 2 (.mv (.d (.bool false))) []]) (.seq (.reg false [om_ 3 0 [],oo_ 4 (.call 313 [(.t 3)]) [0],om_ 2 4 [1,1,0,1]]) .ret))
theorem o_g3 : fnOf Tryz.prog o_g1 = some (o_g2, [.t 2], 5, false) := by kernel_rfl

abbrev o_g4 : FuncId := 312
def o_g5 : C := (.seq (.reg false [oo_ 4 (.new 29 [.nilsl,(.bool false),.nilsl]) [],oo_ 5 (.mv (.d (.int .i64 0))) []]) (.seq (.reg false [om_ 9 0 [],om_ 10 1 [],oo_ 11 (.call 315 [(.t 9),(.t 10)]) [0,1],om_ 8 11 [2],oo_ 12 (.ext (.t
 8) 0) [3],oo_ 13 (.ext (.t 8) 1) [3],oo_ 6 (.new 331 [(.int .i64 0),(.int .i64 0),.nilsl,.nilsl]) [],on_ (.store 4 (.t 6) (.t 12)) [6,4,2,0,1,2,3,4,6],om_ 7 13 [5,7,0,1,2,3,4,5,6,7]]) (.seq (.seq (.reg false [om_ 14 7
 [],oo_ 15 (.bin .neq (.t 14) (.d (.int .i64 0))) [0]]) (.cond (.t 15) (.seq (.reg false [oo_ 16 (.build [.nilsl,(.bool false),.nilsl] []) [],om_ 17 7 [],on_ (.store 3 (.t 4) (.t 16)) [0,0],om_ 5 17 [1,2,0,1,2]]) .ret)
 .skip)) (.seq (.reg false [oo_ 18 (.fa 1 (.t 6)) [],oo_ 19 (.load false 1 (.t 18)) [0],oo_ 20 (.call 211 [(.t 19)]) [1],oo_ 21 (.ext (.t 20) 0) [2],oo_ 22 (.ext (.t 20) 1) [2],on_ (.store 3 (.t 4) (.t 21))
 [3,2,0,1,2,3,4],om_ 5 22 [4,5,0,1,2,3,4,5]]) .ret))))
theorem o_g6 : fnOf Tryz.prog o_g4 = some (o_g5, [.cell 4 true 3, .t 5], 23, false) := by kernel_rfl

abbrev o_g7 : FuncId := 313
def o_g8 : C := (.seq (.reg false [oo_ 2 (.mv (.d (.bool false))) []]) (.seq (.reg false [om_ 3 0 [],oo_ 4 (.bin .geq (.t 3) (.d (.int .i64 1))) [0],om_ 5 4 [1],og_ 6 (.mv (.t 0)) 5 true [2],og_ 7 (.bin .leq (.t 6) (.d (.int .i64 5)))
 5 true [3,2],oo_ 8 (.pick (.t 5) (.t 7) (.d (.bool false))) [2,4],om_ 2 8 [5,2,0,1,2,3,4,5]]) .ret))
theorem o_g9 : fnOf Tryz.prog o_g7 = some (o_g8, [.t 2], 9, false) := by kernel_rfl

abbrev o_ga : FuncId := 315
def o_gb : C := (.seq (.reg false [oo_ 3 (.box 3 (.t 1)) [],oo_ 4 (.new 331 [(.int .i64 0),(.int .i64 0),.nilsl,.nilsl]) [],oo_ 5 (.mv (.d (.int .i64 0))) []]) (.seq (.block 0 (.seq (.reg false [om_ 10 0 [],oo_ 11 (.call 313 [(.t 10)])
 [0],oo_ 12 (.un .not (.t 11)) [1],om_ 9 12 [2,1]]) (.cond (.t 9) (.seq (.reg false [oo_ 13 (.build [(.int .i64 0),(.int .i64 0),.nilsl,.nilsl] []) [],on_ (.store 4 (.t 4) (.t 13)) [0,0],oo_ 5 (.mv (.d (.int .i64 10)))
 [1,0,1]]) .ret) (.seq (.reg false [oo_ 15 (.load false 1 (.t 3)) [],oo_ 16 (.bin .lss (.t 15) (.d (.int .i64 0))) [0],om_ 17 16 [1],og_ 18 (.load false 1 (.t 3)) 17 false [2],og_ 19 (.bin .gtr (.t 18) (.d (.int .i64
 1023))) 17 false [3,2],oo_ 20 (.pick (.t 17) (.d (.bool true)) (.t 19)) [2,4],om_ 14 20 [5,2]]) (.cond (.t 14) (.seq (.reg false [oo_ 21 (.build [(.int .i64 0),(.int .i64 0),.nilsl,.nilsl] []) [],on_ (.store 4 (.t 4)
 (.t 21)) [0,0],oo_ 5 (.mv (.d (.int .i64 2))) [1,0,1]]) .ret) .skip))))) (.seq (.reg false [oo_ 6 (.new 331 [(.int .i64 0),(.int .i64 0),.nilsl,.nilsl]) []]) (.seq (.seq (.reg false [om_ 22 0 [],oo_ 23 (.call 316 [(.t
 22)]) [0]]) (.block 1 .bad)) (.seq (.reg false [oo_ 30 (.load true 4 (.t 6)) [],on_ (.store 4 (.t 4) (.t 30)) [0,0],oo_ 5 (.mv (.d (.int .i64 0))) [1,0,1]]) .ret)))))
theorem o_gc : fnOf Tryz.prog o_ga = some (o_gb, [.cell 4 true 4, .t 5], 31, false) := by kernel_rfl

abbrev n_yu_walk : FuncId := 316
def c_yu_walk : C := (.seq (.reg false [oo_ 1 (.box 3 (.t 0)) [],oo_ 2 (.mv (.d .nilfn)) []]) (.seq (.reg false [oo_ 3 (.mkf (.func 317) [(.t 1)]) [],om_ 2 3 [0,0]]) .ret))
theorem r_yu_walk : fnOf Tryz.prog n_yu_walk = some (c_yu_walk, [.t 2], 4, false) := by kernel_rfl

abbrev o_gd : FuncId := 317
def o_ge : C := (.seq (.reg false [oo_ 5 (.load false 1 (.t 1)) [],oo_ 6 (.bin .mul (.d (.int .i64 2)) (.t 5)) [0],oo_ 7 (.bin .shl (.d (.int .u64 1)) (.t 6)) [1],oo_ 8 (.bsl 194 1 1 [(.int .u64 0)] [(0,1,(.t 7))]) [2],oo_ 9 (.call 139
 [(.t 8)]) [3],oo_ 10 (.build [(.int .i64 0),(.int .i64 0),.nilsl,.nilsl] [(3,1,(.t 9))]) [4],oo_ 3 (.new 331 [(.int .i64 0),(.int .i64 0),.nilsl,.nilsl]) [],on_ (.store 4 (.t 3) (.t 10)) [6,5,4,0,1,2,3,4,5,6]]) (.seq
 (.reg false [oo_ 4 (.mv (.d (.int .i64 0))) []]) (.block 0 (.loop (.seq (.seq (.reg false [om_ 11 4 [],oo_ 12 (.bin .leq (.t 11) (.d (.int .i64 1023))) [0]]) (.cond (.t 12) .skip (.exit 0))) (.seq (.block 1 (.seq (.seq
 (.reg false [om_ 15 0 [],om_ 16 4 [],oo_ 17 (.load true 4 (.t 3)) [],oo_ 18 (.callv (.t 15) [(.t 16),(.t 17)]) [0,1,2],oo_ 19 (.un .not (.t 18)) [3]]) (.cond (.t 19) .ret .skip)) (.reg false [oo_ 20 (.load true 4 (.t
 3)) [],oo_ 21 (.load false 1 (.t 1)) [],oo_ 22 (.call 318 [(.t 20),(.t 21)]) [0,1],on_ (.store 4 (.t 3) (.t 22)) [2,2,0,1,2]]))) (.reg false [om_ 13 4 [],oo_ 14 (.bin .add (.t 13) (.d (.int .i64 1))) [0],om_ 4 14
 [1,0,1]])))))))
abbrev o_gf : FuncId := 318
def o_gg : C := (.seq (.reg false [oo_ 2 (.box 331 (.t 0)) [],oo_ 4 (.new 331 [(.int .i64 0),(.int .i64 0),.nilsl,.nilsl]) []]) (.seq (.reg true [oo_ 8 (.bsl 194 1 1 [(.int .u64 0)] [(0,1,(.d (.int .u64 1)))]) [],oo_ 9 (.call 139 [(.t
 8)]) [0],oo_ 10 (.fa 1 (.t 2)) [],oo_ 11 (.load false 1 (.t 10)) [2],oo_ 12 (.call 237 [(.t 9),(.t 11)]) [1,3,1],om_ 7 12 [4],oo_ 13 (.ext (.t 7) 0) [5],oo_ 14 (.ext (.t 7) 1) [5],oo_ 5 (.new 25 [.nilsl]) [],on_ (.store
 1 (.t 5) (.t 13)) [8,6,4,0,1,2,3,4,5,6,8],om_ 6 14 [7,9,0,1,2,3,4,5,6,7,8,9]]) (.seq (.reg false [oo_ 15 (.fa 2 (.t 2)) [],oo_ 16 (.load true 1 (.t 15)) [0],oo_ 17 (.load true 1 (.t 5)) [],oo_ 18 (.call 138 [(.t 16),(.t
 17)]) [1,2],oo_ 19 (.fa 2 (.t 2)) [0,1,2,3],on_ (.store 1 (.t 19) (.t 18)) [4,3,3,0,1,2,3]]) (.seq (.seq (.reg false [oo_ 20 (.fa 2 (.t 2)) [],oo_ 21 (.load true 1 (.t 20)) [0],oo_ 22 (.fa 3 (.t 2)) [],oo_ 23 (.load
 true 1 (.t 22)) [2],oo_ 24 (.call 144 [(.t 21),(.t 23)]) [1,3],oo_ 25 (.bin .geq (.t 24) (.d (.int .i64 0))) [4]]) (.cond (.t 25) (.seq (.reg false [oo_ 26 (.fa 0 (.t 2)) [],oo_ 27 (.load false 1 (.t 26)) [0],oo_ 28
 (.bin .add (.t 27) (.d (.int .i64 1))) [1],oo_ 29 (.fa 0 (.t 2)) [0,1,2],on_ (.store 1 (.t 29) (.t 28)) [3,2,0,1,2]]) (.seq (.reg false [om_ 30 1 [],oo_ 31 (.fa 3 (.t 2)) [],oo_ 32 (.load true 1 (.t 31)) [1],oo_ 33
 (.call 319 [(.t 30),(.t 32)]) [0,2],oo_ 34 (.fa 3 (.t 2)) [0,1,2,3],on_ (.store 1 (.t 34) (.t 33)) [4,3,3,0,1,2,3]]) (.reg false [om_ 35 1 [],oo_ 36 (.fa 3 (.t 2)) [],oo_ 37 (.load true 1 (.t 36)) [1],oo_ 38 (.call 320
 [(.t 35),(.t 37)]) [0,2],oo_ 39 (.fa 1 (.t 2)) [0,1,2,3],on_ (.store 1 (.t 39) (.t 38)) [4,3,3,0,1,2,3]]))) .skip)) (.seq (.reg false [oo_ 40 (.load true 4 (.t 2)) [],on_ (.store 4 (.t 4) (.t 40)) [0,0]]) .ret)))))
theorem o_gh : fnOf Tryz.prog o_gf = some (o_gg, [.cell 4 true 4], 41, false) := by kernel_rfl

abbrev o_gi : FuncId := 319
def o_gj : C := (.seq (.reg false [oo_ 3 (.box 25 (.t 1)) [],oo_ 4 (.new 25 [.nilsl]) []]) (.seq (.reg false [oo_ 8 (.load true 1 (.t 3)) [],om_ 9 0 [],oo_ 10 (.call 236 [(.t 8),(.t 9)]) [0,1],oo_ 5 (.new 25 [.nilsl]) [],on_ (.store 1
 (.t 5) (.t 10)) [3,2,2,0,1,2,3]]) (.seq (.seq (.reg false [oo_ 12 (.load true 1 (.t 5)) [],om_ 13 0 [],oo_ 14 (.call 237 [(.t 12),(.t 13)]) [0,1],om_ 11 14 [2],oo_ 15 (.ext (.t 11) 0) [3],oo_ 16 (.ext (.t 11) 1) [3],oo_
 6 (.new 25 [.nilsl]) [],on_ (.store 1 (.t 6) (.t 15)) [6,4,2,0,1,2,3,4,6],om_ 7 16 [5,7,0,1,2,3,4,5,6,7]]) (.seq (.reg false [oo_ 17 (.load true 1 (.t 6)) [],oo_ 18 (.load true 1 (.t 3)) [],oo_ 19 (.call 144 [(.t
 17),(.t 18)]) [0,1],oo_ 20 (.bin .lss (.t 19) (.d (.int .i64 0))) [2]]) (.cond (.t 20) (.reg true [oo_ 21 (.load true 1 (.t 5)) [],oo_ 22 (.bsl 194 1 1 [(.int .u64 0)] [(0,1,(.d (.int .u64 1)))]) [],oo_ 23 (.call 139
 [(.t 22)]) [1],oo_ 24 (.call 138 [(.t 21),(.t 23)]) [0,2,2],on_ (.store 1 (.t 5) (.t 24)) [3,3,0,1,2,3]]) .skip))) (.seq (.reg false [oo_ 25 (.load true 1 (.t 3)) [],oo_ 26 (.load true 1 (.t 5)) [],oo_ 27 (.call 138
 [(.t 25),(.t 26)]) [0,1],on_ (.store 1 (.t 4) (.t 27)) [2,2,0,1,2]]) .ret))))
theorem o_gk : fnOf Tryz.prog o_gi = some (o_gj, [.cell 4 true 1], 28, false) := by kernel_rfl

abbrev o_gl : FuncId := 320
def o_gm : C := (.seq (.reg false [oo_ 3 (.box 25 (.t 1)) [],oo_ 4 (.mv (.d (.int .i64 0))) []]) (.seq (.reg false [oo_ 5 (.load true 1 (.t 3)) [],oo_ 6 (.call 191 [(.t 5)]) [0],oo_ 7 (.bin .sub (.t 6) (.d (.int .i64 1))) [1],om_ 8 0
 [],oo_ 9 (.bin .mul (.d (.int .i64 2)) (.t 8)) [3],oo_ 10 (.bin .sub (.t 7) (.t 9)) [2,4],oo_ 11 (.mm true [(.d (.int .i64 0)),(.t 10)]) [5],om_ 4 11 [6,1,0,1,2,3,4,5,6]]) .ret))
theorem o_gn : fnOf Tryz.prog o_gl = some (o_gm, [.t 4], 12, false) := by kernel_rfl

abbrev o_go : FuncId := 149
theorem o_gp : Tryz.prog.funcs[o_go]? = some Tryz.f149 := Tryz.func149
abbrev o_gq : FuncId := 202
theorem o_gr : Tryz.prog.funcs[o_gq]? = some Tryz.f202 := Tryz.func202
end
end Go.Proofs.YtmpjlkclkhnpfaaGreatDoor.Am
namespace Go.Proofs.YtmpjlkclkhnpfaaGreatDoor.Am
section
def wval : List Nat → Nat
 | [] => 0
 | x :: l => x + 18446744073709551616 * wval l
def small (ws : List Nat) : Prop := ∀ x ∈ ws, x < 18446744073709551616

theorem o_gs : ∀ (a b : List Nat), wval (a ++ b) = wval a + 18446744073709551616 ^ a.length * wval b := by
 intro a
 induction a with
 | nil => intro b; simp [wval]
 | cons x a ih => intro b; simp only [List.cons_append, wval, List.length_cons]; rw [ih, Nat.pow_succ, Nat.mul_add, ← Nat.mul_assoc, Nat.mul_comm 18446744073709551616 (18446744073709551616 ^ a.length)]; omega
theorem o_gt : ∀ n, wval (List.replicate n 0) = 0 := by
 intro n
 induction n with
 | zero => rfl
 | succ n ih => rw [List.replicate_succ, wval, ih]
theorem o_gu : ∀ {ws : List Nat}, small ws → wval ws < 18446744073709551616 ^ ws.length := by
 intro ws
 induction ws with
 | nil => intro _; simp [wval]
 | cons x l ih =>
  intro h
  have h1 := h x (by simp)
  have h2 := ih (fun y hy => h y (by simp [hy]))
  rw [wval, List.length_cons, Nat.pow_succ]
  omega

def trimN (ws : List Nat) : Nat → Nat
 | 0 => 0
 | n + 1 => if ws.getD n 0 = 0 then trimN ws n else n + 1
theorem o_gv (ws : List Nat) (n : Nat) (h : n < ws.length) : ws.take (n + 1) = ws.take n ++ [ws.getD n 0] := by
 rw [List.take_add_one, List.getElem?_eq_getElem h]
 simp [List.getD, List.getElem?_eq_getElem h]
theorem o_gw (ws : List Nat) : ∀ n, n ≤ ws.length → wval (ws.take (trimN ws n)) = wval (ws.take n) := by
 intro n
 induction n with
 | zero => intro _; rfl
 | succ n ih =>
  intro h
  unfold trimN
  split
  ·rename_i h0
   rw [ih (by omega), o_gv _ _ (by omega), o_gs, h0]
   simp [wval]
  ·rfl
def top1 (ws : List Nat) : Prop := ∀ k, ws.length = k + 1 → ws.getD k 0 ≠ 0
theorem o_gx (ws : List Nat) : ∀ n, n ≤ ws.length → top1 (ws.take (trimN ws n)) := by
 intro n
 induction n with
 | zero => intro _ k hk; simp [trimN] at hk
 | succ n ih =>
  intro h
  unfold trimN
  split
  ·exact ih (by omega)
  ·rename_i h0
   intro k hk
   rw [List.length_take, Nat.min_eq_left h] at hk
   obtain rfl : n = k := by omega
   have e : (ws.take (n + 1)).getD n 0 = ws.getD n 0 := by simp [List.getD]
   rw [e]
   exact h0

theorem small.take {ws : List Nat} (h : small ws) (n : Nat) : small (ws.take n) := fun x hx => h x (List.mem_of_mem_take hx)

theorem o_gy {ws : List Nat} (h : small ws) (ht : top1 ws) (h0 : wval ws = 0) : ws = [] := by
 rcases ws.eq_nil_or_concat with rfl | ⟨l, x, rfl⟩
 ·rfl
 ·exfalso
  have := ht l.length (by simp)
  simp at this
  simp [o_gs, wval] at h0
  rcases Nat.mul_eq_zero.1 h0.2 with h | h
  ·exact absurd h (Nat.pos_iff_ne_zero.1 (Nat.pow_pos (by decide)))
  ·exact this h

theorem o_gz : ∀ {a b : List Nat}, small a → small b → top1 a → top1 b → wval a = wval b → a = b := by
 intro a
 induction a with
 | nil => intro b _ hb _ tb h; exact (o_gy hb tb h.symm).symm
 | cons x a ih =>
  intro b ha hb ta tb h
  cases b with
  | nil => exact absurd (o_gy ha ta h) (by simp)
  | cons y b =>
   have h1 := ha x (by simp)
   have h2 := hb y (by simp)
   simp only [wval] at h
   have e : x = y := by omega
   subst e
   have e2 : wval a = wval b := by omega
   have e3 : a = b := ih (fun z hz => ha z (by simp [hz])) (fun z hz => hb z (by simp [hz])) (fun k hk => by have := ta (k + 1) (by simp [hk]); simpa using this) (fun k hk => by have := tb (k + 1) (by simp [hk]); simpa using this) e2
   rw [e3]

def movedL (k : Nat) : Nat → List Nat → List Nat
 | c, [] => [c]
 | c, x :: l => ((x * 2 ^ k) % 18446744073709551616 + c) :: movedL k (x * 2 ^ k / 18446744073709551616) l
theorem o_h0 (k : Nat) : ∀ (l : List Nat) (c : Nat), (movedL k c l).length = l.length + 1 := by
 intro l
 induction l with
 | nil => intro c; rfl
 | cons x l ih => intro c; simp [movedL, ih]
theorem o_h1 (k : Nat) : ∀ (l : List Nat) (c : Nat), wval (movedL k c l) = wval l * 2 ^ k + c := by
 intro l
 induction l with
 | nil => intro c; simp [movedL, wval]
 | cons x l ih =>
  intro c
  rw [movedL, wval, ih, wval]
  have := Nat.div_add_mod (x * 2 ^ k) 18446744073709551616
  rw [Nat.add_mul, Nat.mul_add, Nat.mul_assoc]
  omega
theorem o_h2 {k : Nat} (hk : k < 64) : ∀ {l : List Nat} {c : Nat}, small l → c < 2 ^ k → small (movedL k c l) := by
 have p64 : (18446744073709551616 : Nat) = 2 ^ (64 - k) * 2 ^ k := by rw [← Nat.pow_add, show 64 - k + k = 64 by omega]
 intro l
 induction l with
 | nil =>
  intro c _ hc x hx
  simp [movedL] at hx; subst hx
  exact Nat.lt_trans hc (by rw [show (18446744073709551616 : Nat) = 2 ^ 64 by decide]; exact Nat.pow_lt_pow_right (by decide) hk)
 | cons y l ih =>
  intro c h hc x hx
  simp only [movedL, List.mem_cons] at hx
  have hy := h y (by simp)
  rcases hx with rfl | hx
  ·rw [p64, Nat.mul_mod_mul_right]
   have : y % 2 ^ (64 - k) < 2 ^ (64 - k) := Nat.mod_lt _ (Nat.pow_pos (by decide))
   calc _ < y % 2 ^ (64 - k) * 2 ^ k + 2 ^ k := by omega
    _ = (y % 2 ^ (64 - k) + 1) * 2 ^ k := by rw [Nat.add_mul, Nat.one_mul]
    _ ≤ _ := Nat.mul_le_mul_right _ this
  ·refine ih (fun z hz => h z (by simp [hz])) ?_ x hx
   apply Nat.div_lt_of_lt_mul
   exact Nat.mul_lt_mul_of_pos_right hy (Nat.pow_pos (by decide))

def movedB (k : Nat) : Nat → List Nat → List Nat
 | _, [] => []
 | c, x :: l => ((x * 2 ^ k) % 18446744073709551616 + c) :: movedB k (x * 2 ^ k / 18446744073709551616) l
def movedC (k : Nat) : Nat → List Nat → Nat
 | c, [] => c
 | _, x :: l => movedC k (x * 2 ^ k / 18446744073709551616) l
theorem o_h3 (k : Nat) : ∀ (l : List Nat) (c : Nat), movedL k c l = movedB k c l ++ [movedC k c l] := by
 intro l
 induction l with
 | nil => intro c; rfl
 | cons x l ih => intro c; simp [movedL, movedB, movedC, ih]
theorem o_h4 (k : Nat) (l : List Nat) (c : Nat) : (movedB k c l).length = l.length := by
 have h := o_h0 k l c
 rw [o_h3, List.length_append] at h
 simpa using h
theorem o_h5 (k : Nat) (x : Nat) : ∀ (l : List Nat) (c : Nat), movedB k c (l ++ [x]) = movedB k c l ++ [(x * 2 ^ k) % 18446744073709551616 + movedC k c l] := by
 intro l
 induction l with
 | nil => intro c; rfl
 | cons y l ih => intro c; simp [movedB, movedC, ih]
theorem o_h6 (k : Nat) (x : Nat) : ∀ (l : List Nat) (c : Nat), movedC k c (l ++ [x]) = x * 2 ^ k / 18446744073709551616 := by
 intro l
 induction l with
 | nil => intro c; rfl
 | cons y l ih => intro c; simp [movedC, ih]
theorem o_h7 {k x : Nat} (hx : x < 18446744073709551616) : x * 2 ^ k / 18446744073709551616 < 2 ^ k := by
 apply Nat.div_lt_of_lt_mul
 exact Nat.mul_lt_mul_of_pos_right hx (Nat.pow_pos (by decide))
theorem o_h8 {k : Nat} : ∀ {l : List Nat} {c : Nat}, small l → c < 2 ^ k → movedC k c l < 2 ^ k := by
 intro l
 induction l with
 | nil => intro c _ hc; exact hc
 | cons x l ih => intro c h hc; exact ih (fun z hz => h z (by simp [hz])) (o_h7 (h x (by simp)))
theorem o_h9 {k x c : Nat} (hk : k < 64) (hc : c < 2 ^ k) : c ||| (x * 2 ^ k) % 18446744073709551616 = (x * 2 ^ k) % 18446744073709551616 + c := by
 have p64 : (18446744073709551616 : Nat) = 2 ^ (64 - k) * 2 ^ k := by rw [← Nat.pow_add, show 64 - k + k = 64 by omega]
 rw [p64, Nat.mul_mod_mul_right, Nat.or_comm, Nat.mul_comm]
 exact (Nat.two_pow_add_eq_or_of_lt hc _).symm
theorem o_ha {k x : Nat} (hk : k ≤ 64) : x * 2 ^ k / 18446744073709551616 = x / 2 ^ (64 - k) := by
 have p64 : (18446744073709551616 : Nat) = 2 ^ (64 - k) * 2 ^ k := by rw [← Nat.pow_add, show 64 - k + k = 64 by omega]
 rw [p64, Nat.mul_div_mul_right _ _ (Nat.pow_pos (by decide))]

theorem o_hb : ∀ {ws : List Nat} {m : Nat}, top1 ws → wval ws < 18446744073709551616 ^ m → ws.length ≤ m := by
 intro ws
 induction ws with
 | nil => intro m _ _; exact Nat.zero_le _
 | cons x l ih =>
  intro m ht h
  cases m with
  | zero =>
   exfalso
   rw [Nat.pow_zero] at h
   rw [wval] at h
   cases l with
   | nil =>
    have := ht 0 rfl
    simp [wval] at this h
    omega
   | cons y l =>
    have hw : wval (y :: l) = 0 := by omega
    have : (y :: l).length ≤ 0 := ih (m := 0) (fun k hk => by have := ht (k + 1) (by simp [hk]); simpa using this) (by rw [hw]; decide)
    simp at this
  | succ m =>
   rw [List.length_cons]
   have : l.length ≤ m := by
    cases l with
    | nil => exact Nat.zero_le _
    | cons y l =>
     refine ih (fun k hk => by have := ht (k + 1) (by simp [hk]); simpa using this) ?_
     rw [wval, Nat.pow_succ] at h
     omega
   omega

theorem o_hc (f : Nat → Nat) (n : Nat) : wval ((List.range (n + 1)).map f) = wval ((List.range n).map f) + 18446744073709551616 ^ n * f n := by
 rw [List.range_succ, List.map_append, o_gs]
 simp [wval]
theorem o_hd (l : List Nat) (n : Nat) : wval (l.take (n + 1)) = wval (l.take n) + 18446744073709551616 ^ n * l.getD n 0 := by
 by_cases h : n < l.length
 ·rw [o_gv _ _ h, o_gs, List.length_take, Nat.min_eq_left (Nat.le_of_lt h)]
  simp [wval]
 ·rw [List.take_of_length_le (by omega), List.take_of_length_le (by omega)]
  simp [List.getD, List.getElem?_eq_none (show l.length ≤ n by omega)]

def carryW (a b : List Nat) : Nat → Nat
 | 0 => 0
 | n + 1 => (a.getD n 0 + b.getD n 0 + carryW a b n) / 18446744073709551616
def addW (a b : List Nat) (n : Nat) : Nat := (a.getD n 0 + b.getD n 0 + carryW a b n) % 18446744073709551616

theorem small.getD {l : List Nat} (h : small l) (n : Nat) : l.getD n 0 < 18446744073709551616 := by
 by_cases hn : n < l.length
 ·rw [List.getD, List.getElem?_eq_getElem hn]; exact h _ (List.getElem_mem hn)
 ·simp [List.getD, List.getElem?_eq_none (show l.length ≤ n by omega)]
theorem o_he {a b : List Nat} (ha : small a) (hb : small b) : ∀ n, carryW a b n ≤ 1 := by
 intro n
 induction n with
 | zero => exact Nat.zero_le _
 | succ n ih =>
  have h1 := ha.getD n
  have h2 := hb.getD n
  simp only [carryW]
  omega
theorem o_hf (a b : List Nat) : ∀ n, wval ((List.range n).map (addW a b)) + 18446744073709551616 ^ n * carryW a b n = wval (a.take n) + wval (b.take n) := by
 intro n
 induction n with
 | zero => simp [wval, carryW]
 | succ n ih =>
  rw [o_hc, o_hd, o_hd]
  have := Nat.div_add_mod (a.getD n 0 + b.getD n 0 + carryW a b n) 18446744073709551616
  simp only [addW, carryW]
  rw [Nat.pow_succ]
  generalize 18446744073709551616 ^ n = P at *
  generalize (a.getD n 0 + b.getD n 0 + carryW a b n) / 18446744073709551616 = q at *
  generalize (a.getD n 0 + b.getD n 0 + carryW a b n) % 18446744073709551616 = r at *
  have e : P * (18446744073709551616 * q + r) = P * a.getD n 0 + P * b.getD n 0 + P * carryW a b n := by rw [this]; simp [Nat.mul_add]
  rw [Nat.mul_add, ← Nat.mul_assoc] at e
  omega

def borrowW (a b : List Nat) : Nat → Nat
 | 0 => 0
 | n + 1 => if a.getD n 0 < b.getD n 0 + borrowW a b n then 1 else 0
def subW (a b : List Nat) (n : Nat) : Nat := (a.getD n 0 + 18446744073709551616 - b.getD n 0 - borrowW a b n) % 18446744073709551616
theorem o_hg (a b : List Nat) : ∀ n, borrowW a b n ≤ 1 := by
 intro n
 cases n with
 | zero => exact Nat.zero_le _
 | succ n => simp only [borrowW]; split <;> omega
theorem o_hh {a b : List Nat} (ha : small a) (hb : small b) : ∀ n, wval ((List.range n).map (subW a b)) + wval (b.take n) = wval (a.take n) + 18446744073709551616 ^ n * borrowW a b n := by
 intro n
 induction n with
 | zero => simp [wval, borrowW]
 | succ n ih =>
  rw [o_hc, o_hd, o_hd]
  have h1 := ha.getD n
  have h2 := hb.getD n
  have h3 := o_hg a b n
  have e : subW a b n + b.getD n 0 + borrowW a b n = a.getD n 0 + 18446744073709551616 * borrowW a b (n + 1) := by
   simp only [subW, borrowW]
   split <;> omega
  rw [Nat.pow_succ, Nat.mul_assoc]
  generalize 18446744073709551616 ^ n = P at *
  have e2 : P * subW a b n + P * b.getD n 0 + P * borrowW a b n = P * a.getD n 0 + P * (18446744073709551616 * borrowW a b (n + 1)) := by rw [← Nat.mul_add, ← Nat.mul_add, e, Nat.mul_add]
  omega
theorem o_hi {f : Nat → Nat} (h : ∀ i, f i < 18446744073709551616) (n : Nat) : small ((List.range n).map f) := by
 intro x hx
 obtain ⟨i, _, rfl⟩ := List.mem_map.1 hx
 exact h i
theorem o_hj (a b : List Nat) (i : Nat) : addW a b i < 18446744073709551616 := Nat.mod_lt _ (by decide)
theorem o_hk (a b : List Nat) (i : Nat) : subW a b i < 18446744073709551616 := Nat.mod_lt _ (by decide)

theorem o_hl {a b : List Nat} (ha : small a) (hb : top1 b) (h : a.length < b.length) : wval a < wval b := by
 refine Nat.lt_of_lt_of_le (o_gu ha) ?_
 apply Nat.le_of_not_lt
 intro hlt
 have := o_hb hb hlt
 omega
def cmpN (a b : List Nat) : Nat → Int
 | 0 => 0
 | n + 1 => if a.getD n 0 < b.getD n 0 then -1 else if b.getD n 0 < a.getD n 0 then 1 else cmpN a b n
theorem o_hm {l : List Nat} (h : small l) (n : Nat) : wval (l.take n) < 18446744073709551616 ^ n := by
 have := o_gu (h.take n)
 rw [List.length_take] at this
 exact Nat.lt_of_lt_of_le this (Nat.pow_le_pow_right (by decide) (Nat.min_le_left _ _))
theorem o_hn {a b : List Nat} (ha : small a) (hb : small b) : ∀ n, cmpN a b n = if wval (a.take n) < wval (b.take n) then -1 else if wval (b.take n) < wval (a.take n) then 1 else 0 := by
 intro n
 induction n with
 | zero => simp [cmpN, wval]
 | succ n ih =>
  rw [o_hd, o_hd]
  have h1 := o_hm ha n
  have h2 := o_hm hb n
  simp only [cmpN]
  generalize 18446744073709551616 ^ n = P at *
  generalize a.getD n 0 = x at *
  generalize b.getD n 0 = y at *
  by_cases hxy : x < y
  ·rw [if_pos hxy, if_pos]
   have : P * (x + 1) ≤ P * y := Nat.mul_le_mul_left _ hxy
   rw [Nat.mul_add] at this
   omega
  ·rw [if_neg hxy]
   by_cases hyx : y < x
   ·have : P * (y + 1) ≤ P * x := Nat.mul_le_mul_left _ hyx
    rw [Nat.mul_add] at this
    rw [if_pos hyx, if_neg (by omega), if_pos (by omega)]
   ·obtain rfl : x = y := by omega
    rw [if_neg hyx, ih]
    simp only [Nat.add_lt_add_iff_right]
def cmpZ (m n : Nat) : Int := if m < n then -1 else if n < m then 1 else 0
end
end Go.Proofs.YtmpjlkclkhnpfaaGreatDoor.Am
namespace Go.Proofs.YtmpjlkclkhnpfaaGreatDoor.Am
section
open Go.RowKit
def W (ws : List Nat) : D := .sl ws.length (ws.map fun x : Nat => .int .u64 x)

def wordsF : Nat → Nat → List Nat
 | 0, _ => []
 | f + 1, n => if n = 0 then [] else (n % 18446744073709551616) :: wordsF f (n / 18446744073709551616)
def words (n : Nat) : List Nat := wordsF n n

theorem o_ho : ∀ (f n : Nat), n ≤ f → wval (wordsF f n) = n ∧ small (wordsF f n) ∧ top1 (wordsF f n)
 | 0, n, h => by
  obtain rfl : n = 0 := by omega
  exact ⟨rfl, by simp [small, wordsF], by intro k hk; simp [wordsF] at hk⟩
 | f + 1, n, h => by
  by_cases h0 : n = 0
  ·subst h0
   simp only [wordsF, if_true]
   exact ⟨rfl, by simp [small], by intro k hk; simp at hk⟩
  ·obtain ⟨h1, h2, h3⟩ := o_ho f (n / 18446744073709551616) (by omega)
   simp only [wordsF, if_neg h0]
   refine ⟨by simp only [wval, h1]; omega, fun x hx => ?_, fun k hk => ?_⟩
   ·rcases List.mem_cons.1 hx with rfl | hx
    ·omega
    ·exact h2 x hx
   ·cases hl : wordsF f (n / 18446744073709551616) with
    | nil =>
     rw [hl] at h1 hk
     simp [wval] at h1 hk
     subst hk
     simp; omega
    | cons y r =>
     rw [hl] at hk h3
     simp at hk
     subst hk
     have := h3 r.length rfl
     simpa using this
theorem o_hp (n : Nat) : wval (words n) = n := (o_ho n n (Nat.le_refl _)).1
theorem o_hq (n : Nat) : small (words n) := (o_ho n n (Nat.le_refl _)).2.1
theorem o_hr (n : Nat) : top1 (words n) := (o_ho n n (Nat.le_refl _)).2.2
theorem o_hs {ws : List Nat} (h : small ws) (ht : top1 ws) : words (wval ws) = ws := o_gz (o_hq _) h (o_hr _) ht (o_hp _)
theorem o_ht {n : Nat} : words n = [] ↔ n = 0 := by
 constructor
 ·intro h; have := o_hp n; rw [h] at this; exact this.symm
 ·rintro rfl; rfl

def natW (n : Nat) : D := W (words n)
theorem o_hu {ws : List Nat} (h : small ws) (ht : top1 ws) : natW (wval ws) = W ws := by rw [natW, o_hs h ht]
theorem o_hv : natW 0 = .sl 0 [] := rfl
def size (n : Nat) : Nat := (words n).length

theorem o_hw (n : Nat) (l : List D) (hl : l.length = n) (hn : n ≤ 4000000000) : Eqn Tryz.prog o_dd [.d (.sl n l)] [] (.d (.sl n l)) [] := by
 refine Eqn.pure o_df (o_58 _) ?_
 simp only [o_de]
 rcases Nat.eq_zero_or_pos n with rfl | h0
 ·have : l = [] := List.eq_nil_of_length_eq_zero hl
  subst this
  refine AW.empty 0 rfl ?_ ?_
  ·simp
   refine G0 ?_; try with_reducible exact tt
   refine AW.cond rfl (fun h => ?_) (fun h => ?_)
   ·refine G0 ?_; try with_reducible exact tt
    exact Sub1.nil
   ·simp at h
  ·simp
   refine G0 ?_; try with_reducible exact tt
   refine AW.cond rfl (fun h => ?_) (fun h => ?_)
   ·simp at h
   ·refine G0 ?_; try with_reducible exact tt
    exact Sub1.sl0
 ·refine G1 h0 ?_; try with_reducible exact tt
  refine AW.cond rfl (fun h => ?_) (fun h => ?_)
  ·simp at h
  ·refine G0 ?_; try with_reducible exact tt
   have h1 : ¬ n = 0 := by omega
   simp [h1, hl]
   refine need.of (by omega) ?_
   refine AW.freeze 0 1 ⟨194, l.map .d⟩ l (by simp) rfl ?_
   simp
   refine G0 ?_; try with_reducible exact tt
   have : l.take n = l := List.take_of_length_le (by omega)
   simp [this]

theorem o_hx {ws : List Nat} {k : Nat} (h : k < ws.length) : ws[k] = ws.getD k 0 := by simp [List.getD, h]

theorem o_hy (ws : List Nat) (hs : small ws) (hn : ws.length ≤ 4000000000) : Eqn Tryz.prog o_bm [.d (W ws)] [] (.d (.agg [natW (wval ws)])) [] := by
 refine Eqn.pure o_bo (o_58 _) ?_
 simp only [o_bn, W]
 refine G0 ?_; try with_reducible exact tt
 refine AW.loopT (α := Nat) 1 (fun m => [(3, .d (.int .i64 (m : Int)))]) (fun _ => []) (fun m => m ≤ ws.length ∧ trimN ws m = trimN ws ws.length) (fun m => m) ws.length ?_ ?_ ⟨Nat.le_refl _, rfl⟩ ?_ ?_ ?_
 ·simp
 ·simp
 ·simp
 ·simp
 rintro m ⟨hm, ht⟩
 simp
 have fin : ∀ k, k = trimN ws ws.length → W (ws.take k) = natW (wval ws) := by
  rintro k rfl
  have := o_hu (hs.take (trimN ws ws.length)) (o_gx ws _ (Nat.le_refl _))
  rw [← this, o_gw _ _ (Nat.le_refl _), List.take_length]
 cases m with
 | zero =>
  refine G0 ?_; try with_reducible exact tt
  refine AW.cond rfl (fun h => ?_) (fun h => ?_)
  ·simp at h
  refine G0 ?_; try with_reducible exact tt
  refine Sub1.of ?_
  rw [← fin 0 ht]
  simp [W]
 | succ m =>
  have hm' : m < ws.length := hm
  have hp : (0 : Int) < (m : Int) + 1 := by omega
  have e : (m : Int) + 1 - 1 = m := by omega
  have ew : IntKind.i64.wrap (m : Int) = m := w64 (by omega) (by omega)
  refine G1 (fs hp (fs e (fs ew hm'))) ?_; try with_reducible exact tt
  refine AW.cond rfl (fun h => ?_) (fun h => ?_)
  ·simp at h
   refine G1 (fs hp (fs e ew)) ?_; try with_reducible exact tt
   refine ⟨m, ⟨by omega, ?_⟩, ?_⟩
   ·rw [← ht, trimN, if_pos]
    rw [← o_hx hm']; omega
   ·simp
  ·simp at h
   refine G0 ?_; try with_reducible exact tt
   have hk : m + 1 = trimN ws ws.length := by
    rw [← ht, trimN, if_neg]
    rw [← o_hx hm']; omega
   refine G0 ?_; try with_reducible exact tt
   refine Sub1.of ?_
   rw [← fin _ hk]
   simp [W]
   omega

theorem o_hz (ws : List Nat) (hs : small ws) (hn : ws.length ≤ 4000000000) : Eqn Tryz.prog o_bg [.d (W ws)] [] (.d (.agg [natW (wval ws)])) [] := by
 refine Eqn.pure o_bi (o_58 _) ?_
 simp only [o_bh, W]
 refine G0 ?_; try with_reducible exact tt
 refine CallS.pu (o_hw _ (ws.map fun x : Nat => .int .u64 x) (by simp) hn) (R0 ?_); try with_reducible exact tt
 refine CallS.pu (o_hy ws hs hn) (R0 ?_); try with_reducible exact tt

theorem o_i0 (n : Nat) : Eqn Tryz.prog o_ba [.d (.agg [natW n])] [] (.d (.bool (n == 0))) [] := by
 refine Eqn.pure o_bc (o_58 _) ?_
 simp only [o_bb, natW, W]
 refine G0 ?_; try with_reducible exact tt
 refine Sub1.bool ?_
 rw [Bool.eq_iff_iff]
 simp [o_ht]

theorem o_i1 {m n : Nat} (h : size m < size n) : m < n := by
 have := o_hl (o_hq m) (o_hr n) h
 rwa [o_hp, o_hp] at this

theorem o_i2 (m n : Nat) (hm : size m ≤ 1000000) (hn : size n ≤ 1000000) : Eqn Tryz.prog o_bs [.d (.agg [natW m]), .d (.agg [natW n])] [] (.d (.int .i64 (cmpZ m n))) [] := by
 refine Eqn.pure o_bu (o_58 _) ?_
 unfold size at hm hn
 have sa := o_hq m
 have sb := o_hq n
 simp only [o_bt, natW, W]
 have hz : cmpZ m n = if (words m).length < (words n).length then -1 else if (words n).length < (words m).length then 1 else cmpN (words m) (words n) (words m).length := by
  split
  ·rename_i h; rw [cmpZ, if_pos (o_i1 h)]
  ·split
   ·rename_i h; have := o_i1 h; rw [cmpZ, if_neg (by omega), if_pos this]
   ·have := o_hn sa sb (words m).length
    rw [List.take_length, show (words m).length = (words n).length by omega, List.take_length, o_hp, o_hp] at this
    rw [show (words m).length = (words n).length by omega, this]
    rfl
 rw [hz]
 clear hz
 generalize words m = xs at *
 generalize words n = ys at *
 by_cases hl : xs.length = ys.length
 ·refine G1 hl ?_; try with_reducible exact tt
  refine AW.cond rfl (fun h => ?_) (fun h => ?_)
  ·simp [w64] at h
  refine G1 hl ?_; try with_reducible exact tt
  refine AW.loopT (α := Nat) 2 (fun m => [(6, .d (.int .i64 ((m : Int) - 1)))]) (fun _ => []) (fun m => m ≤ ys.length ∧ cmpN xs ys m = cmpN xs ys ys.length) (fun m => m) ys.length ?_ ?_ ⟨Nat.le_refl _, rfl⟩ ?_ ?_ ?_
  ·simp
  ·simp
  ·simp [hl]
  ·simp
  rintro m ⟨hm', hc⟩
  simp
  cases m with
  | zero =>
   refine G0 ?_; try with_reducible exact tt
   refine AW.cond rfl (fun h => ?_) (fun h => ?_)
   ·simp at h
   refine G0 ?_; try with_reducible exact tt
   refine Sub1.int ?_
   rw [← hc]; rfl
  | succ m =>
   have h1 : m < xs.length := by omega
   have h2 : m < ys.length := hm'
   have e : (m : Int) + 1 - 1 = m := by omega
   have ew : IntKind.i64.wrap ((m : Int) - 1) = (m : Int) - 1 := w64 (by omega) (by omega)
   rw [cmpN, ← o_hx h1, ← o_hx h2] at hc
   refine G1 (fs e (fs h1 h2)) ?_; try with_reducible exact tt
   refine AW.cond rfl (fun h => ?_) (fun h => ?_)
   ·refine G1 (fs e (fs h1 h2)) ?_; try with_reducible exact tt
    refine AW.cond rfl (fun h => ?_) (fun h => ?_)
    ·simp at h
     refine G0 ?_; try with_reducible exact tt
     refine Sub1.int ?_
     rw [if_pos h] at hc
     exact hc
    ·simp at h
     rw [if_neg (by omega)] at hc
     refine G0 ?_; try with_reducible exact tt
     refine AW.cond rfl (fun h => ?_) (fun h => ?_)
     ·simp at h
      refine G0 ?_; try with_reducible exact tt
      refine Sub1.int ?_
      rw [if_pos h] at hc
      exact hc
     ·simp at h
      rw [if_neg (by omega)] at hc
      refine G1 ew ?_; try with_reducible exact tt
      exact ⟨m, ⟨by omega, hc⟩, by simp⟩
   ·simp at h
 ·refine G0 ?_; try with_reducible exact tt
  refine AW.cond rfl (fun h => ?_) (fun h => ?_)
  ·refine G0 ?_; try with_reducible exact tt
   refine Sub1.int ?_
   split <;> omega
  ·simp at h
   omega
end
end Go.Proofs.YtmpjlkclkhnpfaaGreatDoor.Am
namespace Go.Proofs.YtmpjlkclkhnpfaaGreatDoor.Am
section
open Go.RowKit
abbrev U (ws : List Nat) : List V := ws.map fun x : Nat => V.d (.int .u64 x)

theorem o_i3 (x y c s d : Nat) (hx : x < 18446744073709551616) (hy : y < 18446744073709551616) (hc : c ≤ 1) (hs : s < 18446744073709551616) (e : x + y + c = s + 18446744073709551616 * d) : Eqn Tryz.prog o_go [.d (.int .u64 x), .d (.int .u64 y), .d (.int .u64 c)] [] (.tup [.d (.int .u64 s), .d (.int .u64 d)]) [] := by
 refine Eqn.extern o_gp (by kernel_rfl) (by kernel_rfl) (by kernel_rfl) (e := add64Entry) (by kernel_rfl) rfl fun m vs h => ?_
 obtain ⟨v1, r1, rfl, h1, h⟩ := V.reps_cons'.1 h
 obtain ⟨v2, r2, rfl, h2, h⟩ := V.reps_cons'.1 h
 obtain ⟨v3, r3, rfl, h3, h⟩ := V.reps_cons'.1 h
 simp at h; subst h
 rw [V.rep_int] at h1 h2 h3
 subst h1 h2 h3
 have := run_add64 (P := Tryz.prog) x y c (by omega) (by omega) (by omega) (by omega) m.w
 refine ⟨_, this, ?_⟩
 unfold V.rep
 refine ⟨[.int .u64 (((x : Int) + y + c) % 18446744073709551616), .int .u64 (((x : Int) + y + c) / 18446744073709551616)], rfl, ?_⟩
 simp only [V.reps_cons, V.rep_int, V.reps_nil, and_true]
 constructor <;> congr 1 <;> omega

theorem o_i4 (x y c s d : Nat) (hx : x < 18446744073709551616) (hy : y < 18446744073709551616) (hc : c ≤ 1) (hs : s < 18446744073709551616) (e : x + 18446744073709551616 * d = s + y + c) : Eqn Tryz.prog o_gq [.d (.int .u64 x), .d (.int .u64 y), .d (.int .u64 c)] [] (.tup [.d (.int .u64 s), .d (.int .u64 d)]) [] := by
 refine Eqn.extern o_gr (by kernel_rfl) (by kernel_rfl) (by kernel_rfl) (e := sub64Entry) (by kernel_rfl) rfl fun m vs h => ?_
 obtain ⟨v1, r1, rfl, h1, h⟩ := V.reps_cons'.1 h
 obtain ⟨v2, r2, rfl, h2, h⟩ := V.reps_cons'.1 h
 obtain ⟨v3, r3, rfl, h3, h⟩ := V.reps_cons'.1 h
 simp at h; subst h
 rw [V.rep_int] at h1 h2 h3
 subst h1 h2 h3
 have := run_sub64 (P := Tryz.prog) x y c hc m.w
 refine ⟨_, this, ?_⟩
 unfold V.rep
 refine ⟨[.int .u64 s, .int .u64 d], ?_, by simp only [V.reps_cons, V.rep_int, V.reps_nil, and_true]⟩
 congr 4
 ·omega
 ·congr 2
  split <;> omega

theorem o_i5 (a b : List Nat) (i : Nat) : a.getD i 0 + b.getD i 0 + carryW a b i = addW a b i + 18446744073709551616 * carryW a b (i + 1) := by
 rw [addW, carryW]; exact (Nat.mod_add_div _ _).symm
theorem o_i6 {ws : List Nat} {k : Nat} (h : ¬ k < ws.length) : ws.getD k 0 = 0 := by simp [List.getD, show ws.length ≤ k by omega]
theorem o_i7 (l : List D) : (V.tup (l.map .d)).plain := by
 have h1 : V.lowl 0 (l.map V.d) = true := by induction l <;> simp_all [V.lowl, V.low]
 have h2 : ∀ θ, V.rens θ (l.map V.d) = l.map V.d := fun θ => by induction l <;> simp_all [V.rens, V.ren]
 exact ⟨by simp [V.low, h1], fun θ => by simp [V.ren, h2]⟩

def rowV (f : Nat → D) (n i : Nat) : List V := (List.range i).map (fun k => V.d (f k)) ++ List.replicate (n - i) (.d (.int .u64 0))
@[simp] theorem o_i8 (f : Nat → D) (n i : Nat) : (rowV f n i).length = i + (n - i) := by simp [rowV]
theorem out0 (n : Nat) (f : Nat → D) : List.replicate n (V.d (.int .u64 0)) = rowV f n 0 := by simp [rowV]
theorem o_i9 {f : Nat → D} {n i : Nat} (h : i < n) : (rowV f n i).set i (.d (f i)) = rowV f n (i + 1) := by
 obtain ⟨k, rfl⟩ : ∃ k, n = i + k + 1 := ⟨n - i - 1, by omega⟩
 rw [rowV, rowV, List.set_append_right _ _ (by simp), List.range_succ, List.map_append, List.append_assoc]
 congr 1
 simp only [List.length_map, List.length_range, Nat.sub_self]
 rw [show i + k + 1 - i = k + 1 by omega, show i + k + 1 - (i + 1) = k by omega]
 simp [List.replicate_succ]
@[simp] theorem o_ia (n : Nat) (f : Nat → D) (k i : Nat) : V.lowl n (rowV f k i) = true := by
 have h1 : ∀ l : List D, V.lowl n (l.map V.d) = true := fun l => by induction l <;> simp_all [V.lowl, V.low]
 have : rowV f k i = ((List.range i).map f ++ List.replicate (k - i) (D.int .u64 0)).map .d := by simp [rowV]
 rw [this, h1]
@[simp] theorem o_ib (l : List V) : Subs l l ↔ True := iff_true_intro (Subs.refl l)
theorem o_ic {f : Nat → D} {n : Nat} {z : D} : (rowV f (n + 1) n).set n (.d z) = ((List.range n).map f ++ [z]).map .d := by
 rw [rowV, List.set_append_right _ _ (by simp)]
 simp
theorem o_id {f : Nat → D} {n : Nat} : rowV f n n = ((List.range n).map f).map .d := by simp [rowV]

theorem o_ie (a b : D) : (V.tup [.d a, .d b]).plain := o_i7 [a, b]
theorem o_if (a b c : D) : (V.tup [.d a, .d b, .d c]).plain := o_i7 [a, b, c]

theorem o_ig (m n : Nat) (hm : size m ≤ 1000000) (hn : size n ≤ 1000000) : Eqn Tryz.prog o_bd [.d (.agg [natW m]), .d (.agg [natW n])] [] (.d (.agg [natW (m + n)])) [] := by
 refine Eqn.pure o_bf (o_58 _) ?_
 -- the longer one, the other one
 obtain ⟨A, B, hAB, hsA, hsB, hle, hsum, hca, hcb⟩ : ∃ A B : List Nat, (A, B) = (if (words m).length < (words n).length then (words n, words m) else (words m, words n)) ∧ small A ∧ small B ∧ B.length ≤ A.length ∧ wval A + wval B = m + n ∧ A.length ≤ 1000000 ∧ B.length ≤ 1000000 := by
  unfold size at hm hn
  by_cases h : (words m).length < (words n).length
  ·exact ⟨words n, words m, by rw [if_pos h], o_hq _, o_hq _, by omega, by rw [o_hp, o_hp]; omega, by omega, by omega⟩
  ·exact ⟨words m, words n, by rw [if_neg h], o_hq _, o_hq _, by omega, by rw [o_hp, o_hp], by omega, by omega⟩
 simp only [o_be, natW, W]
 generalize words m = xs at *
 generalize words n = ys at *
 unfold size at hm hn
 refine AW.seq (AW.reg mix ?_)
 (simp -implicitDefEqProofs; try simp (disch := omega) only [w64, wu64])
 refine AW.cut 3 [] [(0, ⟨25, [.d (W A)]⟩), (1, ⟨25, [.d (W B)]⟩)] ?_ ?_ ?_ ?_
 ·simp
 ·simp
 ·refine G0 ?_; try with_reducible exact tt
  refine AW.cond rfl (fun h => ?_) (fun h => ?_)
  ·simp at h
   rw [if_pos h] at hAB
   cases hAB
   refine G0 ?_; try with_reducible exact tt
   simp [W]
  ·simp at h
   rw [if_neg (by omega)] at hAB
   cases hAB
   refine G0 ?_; try with_reducible exact tt
   simp [W]
 clear hAB hm hn
 simp [W]
 refine G0 ?_; try with_reducible exact tt

 rw [out0 _ (fun k => .int .u64 (addW A B k : Nat))]
 refine G0 ?_; try with_reducible exact tt
 refine AW.loopT (α := Nat) 4 (fun i => [(27, .d (.int .i64 (i : Int))), (6, .d (.int .u64 (carryW A B i : Nat)))]) (fun i => [(3, ⟨194, rowV (fun k => .int .u64 (addW A B k : Nat)) (A.length + 1) i⟩)]) (fun i => i ≤ A.length) (fun i => A.length - i) 0 ?_ ?_ (Nat.zero_le _) ?_ ?_ ?_
 ·simp
 ·simp
 ·simp [carryW]
 ·simp
 rintro i hi
 simp
 by_cases h : i = A.length
 ·subst h
  refine G0 ?_; try with_reducible exact tt
  refine AW.cond rfl (fun h => ?_) (fun h => ?_)
  ·simp at h
  refine AW.exit ?_
  (try (simp -implicitDefEqProofs; try simp (disch := omega) only [w64, wu64]))
  repeat (first | refine AW.seq ?_ | refine AW.block ?_)
  refine AW.reg mix ?_
  (simp -implicitDefEqProofs; try simp (disch := omega) only [w64, wu64])
  try refine need.of (by first | omega | kernel_rfl) ?_
  obtain ⟨ws, hl, hr, hv, hs⟩ : ∃ ws : List Nat, ws.length = A.length + 1 ∧ (rowV (fun k => .int .u64 (addW A B k : Nat)) (A.length + 1) A.length).set A.length (.d (.int .u64 (carryW A B A.length : Nat))) = U ws ∧ wval ws = m + n ∧ small ws := by
   refine ⟨(List.range A.length).map (addW A B) ++ [carryW A B A.length], by simp, by rw [o_ic]; simp [U], ?_, ?_⟩
   ·rw [o_gs, ← hsum]
    have := o_hf A B A.length
    rw [List.take_length, List.take_of_length_le hle] at this
    simp [wval]
    rw [← this]
   ·intro x hx
    rcases List.mem_append.1 hx with hx | hx
    ·obtain ⟨k, -, rfl⟩ := List.mem_map.1 hx; exact o_hj _ _ _
    ·simp at hx; subst hx; have := o_he hsA hsB A.length; omega
  rw [hr]
  refine AW.freeze 3 1 ⟨194, _⟩ (ws.map fun x : Nat => .int .u64 x) (by rfl) (by simp) ?_
  simp [← hl, List.take_of_length_le]
  refine G0 ?_; try with_reducible exact tt
  refine CallS.pu (o_hy ws hs (by omega)) (R0 ?_); try with_reducible exact tt
  refine Sub1.of ?_
  rw [hv]; rfl
 ·have hi' : i < A.length := by omega
  have hp : (i : Int) < A.length := by omega
  have hc := o_he hsA hsB i
  have hset := o_i9 (f := fun k => .int .u64 (addW A B k : Nat)) (n := A.length + 1) (i := i) (by omega)
  have ew : IntKind.i64.wrap ((i : Int) + 1) = (i : Int) + 1 := w64 (by omega) (by omega)
  refine G1 (fs hi' hp) ?_; try with_reducible exact tt
  refine AW.cond rfl (fun h => ?_) (fun h => ?_)
  ·clear h
   by_cases hb : i < B.length
   ·have e : A[i] + B[i] + carryW A B i = addW A B i + 18446744073709551616 * carryW A B (i + 1) := by
     rw [← o_i5, o_hx hi', o_hx hb]
    refine G1 (fs hi' (fs hp hb)) ?_; try with_reducible exact tt
    refine AW.cond rfl (fun h => ?_) (fun h => ?_)
    ·clear h
     refine G1 (fs hi' (fs hp hb)) ?_; try with_reducible exact tt
     refine CallS.pu (o_i3 _ _ _ (addW A B i) (carryW A B (i + 1)) (hsA _ (List.getElem_mem _)) (hsB _ (List.getElem_mem _)) hc (o_hj _ _ _) e) (R1 (fs hset ew) ?_); try with_reducible exact tt
     exact ⟨i + 1, by omega, by omega, by simp [wk, ew], by simp [wkH]⟩
    ·simp [hb] at h
   ·have e : A[i] + 0 + carryW A B i = addW A B i + 18446744073709551616 * carryW A B (i + 1) := by
     rw [← o_i5, o_hx hi', o_i6 hb]
    refine G1 (fs hi' (fs hp hb)) ?_; try with_reducible exact tt
    refine AW.cond rfl (fun h => ?_) (fun h => ?_)
    ·simp [hb] at h
    ·clear h
     refine G1 (fs hi' (fs hp hb)) ?_; try with_reducible exact tt
     refine CallS.pu (o_i3 _ 0 _ (addW A B i) (carryW A B (i + 1)) (hsA _ (List.getElem_mem _)) (by omega) hc (o_hj _ _ _) e) (R1 (fs hset ew) ?_); try with_reducible exact tt
     exact ⟨i + 1, by omega, by omega, by simp [wk, ew], by simp [wkH]⟩
  ·simp at h
end
end Go.Proofs.YtmpjlkclkhnpfaaGreatDoor.Am
namespace Go.Proofs.YtmpjlkclkhnpfaaGreatDoor.Am
section
open Go.RowKit
theorem o_ih {a b : List Nat} (ha : small a) (hb : small b) (i : Nat) : a.getD i 0 + 18446744073709551616 * borrowW a b (i + 1) = subW a b i + b.getD i 0 + borrowW a b i := by
 have h1 := ha.getD i
 have h2 := hb.getD i
 have h3 := o_hg a b i
 simp only [subW, borrowW]
 split <;> omega
theorem o_ii {a b : List Nat} (ha : small a) (hb : small b) (hl : b.length ≤ a.length) (h : wval b ≤ wval a) : wval ((List.range a.length).map (subW a b)) = wval a - wval b := by
 have h1 := o_hh ha hb a.length
 rw [List.take_length, List.take_of_length_le hl] at h1
 have h2 := o_hg a b a.length
 have h3 := o_gu (o_hi (o_hk a b) a.length)
 rw [List.length_map, List.length_range] at h3
 have : borrowW a b a.length = 0 ∨ borrowW a b a.length = 1 := by omega
 rcases this with e | e
 ·rw [e] at h1; omega
 ·rw [e] at h1; omega
theorem o_ij {m n : Nat} (h : m ≤ n) : size m ≤ size n := by
 apply Nat.le_of_not_lt
 intro hlt
 have := o_i1 hlt
 omega

theorem o_ik (m n : Nat) (hm : size m ≤ 1000000) (hle : n ≤ m) : Eqn Tryz.prog o_c1 [.d (.agg [natW m]), .d (.agg [natW n])] [] (.tup [.d (.agg [natW (m - n)]), .d (.int .i64 0)]) [] := by
 refine Eqn.pure o_c3 (o_ie _ _) ?_
 have hs := o_ij hle
 simp only [o_c2]
 refine G0 ?_; try with_reducible exact tt
 refine CallS.pu (o_i2 m n hm (by omega)) (R0 ?_); try with_reducible exact tt
 have hc : ¬ cmpZ m n < 0 := by unfold cmpZ; split <;> (try split) <;> omega
 refine AW.cond rfl (fun h => ?_) (fun h => ?_)
 ·simp [hc] at h
 clear h
 refine G0 ?_; try with_reducible exact tt
 unfold size at hm hs
 obtain ⟨A, hA⟩ : ∃ A, A = words m := ⟨_, rfl⟩
 obtain ⟨B, hB⟩ : ∃ B, B = words n := ⟨_, rfl⟩
 have hsA : small A := hA ▸ o_hq m
 have hsB : small B := hB ▸ o_hq n
 have hvA : wval A = m := by rw [hA, o_hp]
 have hvB : wval B = n := by rw [hB, o_hp]
 rw [show natW m = .sl A.length (A.map fun x : Nat => .int .u64 x) by rw [hA]; rfl, show natW n = .sl B.length (B.map fun x : Nat => .int .u64 x) by rw [hB]; rfl]
 rw [← hA, ← hB] at hs
 rw [← hA] at hm
 clear hA hB
 refine G0 ?_; try with_reducible exact tt
 rw [out0 _ (fun k => .int .u64 (subW A B k : Nat))]
 refine AW.loopT (α := Nat) 4 (fun i => [(23, .d (.int .i64 (i : Int))), (7, .d (.int .u64 (borrowW A B i : Nat)))]) (fun i => [(3, ⟨194, rowV (fun k => .int .u64 (subW A B k : Nat)) A.length i⟩)]) (fun i => i ≤ A.length) (fun i => A.length - i) 0 ?_ ?_ (Nat.zero_le _) ?_ ?_ ?_
 ·simp
 ·simp
 ·simp [borrowW]
 ·simp
 rintro i hi
 simp
 by_cases h : i = A.length
 ·subst h
  refine G0 ?_; try with_reducible exact tt
  refine AW.cond rfl (fun h => ?_) (fun h => ?_)
  ·simp at h
  refine AW.exit ?_
  (try (simp -implicitDefEqProofs; try simp (disch := omega) only [w64, wu64]))
  obtain ⟨ws, hl, hr, hv, hs'⟩ : ∃ ws : List Nat, ws.length = A.length ∧ rowV (fun k => .int .u64 (subW A B k : Nat)) A.length A.length = U ws ∧ wval ws = m - n ∧ small ws := by
   refine ⟨(List.range A.length).map (subW A B), by simp, by rw [o_id]; simp [U], ?_, o_hi (o_hk A B) _⟩
   rw [← hvA, ← hvB]
   exact o_ii hsA hsB hs (by omega)
  rw [hr]
  refine AW.freeze 3 1 ⟨194, _⟩ (ws.map fun x : Nat => .int .u64 x) (by rfl) (by simp) ?_
  simp [← hl, List.take_of_length_le]
  refine G0 ?_; try with_reducible exact tt
  refine CallS.pu (o_hy ws hs' (by omega)) (R0 ?_); try with_reducible exact tt
  refine Sub1.of ?_
  rw [hv]
 ·have hi' : i < A.length := by omega
  have hp : (i : Int) < A.length := by omega
  have hc := o_hg A B i
  have hset := o_i9 (f := fun k => .int .u64 (subW A B k : Nat)) (n := A.length) (i := i) (by omega)
  have ew : IntKind.i64.wrap ((i : Int) + 1) = (i : Int) + 1 := w64 (by omega) (by omega)
  have e := o_ih hsA hsB i
  refine G1 (fs hi' hp) ?_; try with_reducible exact tt
  refine AW.cond rfl (fun h => ?_) (fun h => ?_)
  ·clear h
   by_cases hb : i < B.length
   ·rw [← o_hx hi', ← o_hx hb] at e
    refine G1 (fs hi' (fs hp hb)) ?_; try with_reducible exact tt
    refine AW.cond rfl (fun h => ?_) (fun h => ?_)
    ·clear h
     refine G1 (fs hi' (fs hp hb)) ?_; try with_reducible exact tt
     refine CallS.pu (o_i4 _ _ _ (subW A B i) (borrowW A B (i + 1)) (hsA _ (List.getElem_mem _)) (hsB _ (List.getElem_mem _)) hc (o_hk _ _ _) e) (R1 (fs hset ew) ?_); try with_reducible exact tt
     exact ⟨i + 1, by omega, by omega, by simp [wk, ew], by simp [wkH]⟩
    ·simp [hb] at h
   ·rw [← o_hx hi', o_i6 hb] at e
    refine G1 (fs hi' (fs hp hb)) ?_; try with_reducible exact tt
    refine AW.cond rfl (fun h => ?_) (fun h => ?_)
    ·simp [hb] at h
    ·clear h
     refine G1 (fs hi' (fs hp hb)) ?_; try with_reducible exact tt
     refine CallS.pu (o_i4 _ 0 _ (subW A B i) (borrowW A B (i + 1)) (hsA _ (List.getElem_mem _)) (by omega) hc (o_hk _ _ _) e) (R1 (fs hset ew) ?_); try with_reducible exact tt
     exact ⟨i + 1, by omega, by omega, by simp [wk, ew], by simp [wkH]⟩
  ·simp at h
end
end Go.Proofs.YtmpjlkclkhnpfaaGreatDoor.Am
namespace Go.Proofs.YtmpjlkclkhnpfaaGreatDoor.Am
section
open Go.RowKit
def rowM (k : Nat) (A : List Nat) (i : Nat) : List Nat := movedL k 0 (A.take i) ++ List.replicate (A.length - i) 0
theorem o_il (k : Nat) (A : List Nat) (i : Nat) (h : i ≤ A.length) : (rowM k A i).length = A.length + 1 := by
 rw [rowM, List.length_append, o_h0, List.length_take, List.length_replicate]; omega
theorem o_im (k : Nat) (A : List Nat) : rowM k A 0 = List.replicate (A.length + 1) 0 := by simp [rowM, movedL, List.replicate_succ]
theorem o_in (k : Nat) (A : List Nat) : rowM k A A.length = movedL k 0 A := by simp [rowM]
theorem o_io (k : Nat) (A : List Nat) (i : Nat) (h : i < A.length) : (rowM k A i).getD i 0 = movedC k 0 (A.take i) := by
 have e : i = (movedB k 0 (A.take i)).length := by rw [o_h4, List.length_take]; omega
 rw [rowM, o_h3, List.append_assoc, List.getD, List.getElem?_append_right (by omega), show i - (movedB k 0 (A.take i)).length = 0 by omega]
 rfl
theorem o_ip (k : Nat) (A : List Nat) (i : Nat) (h : i < A.length) : ((rowM k A i).set i (A.getD i 0 * 2 ^ k % 18446744073709551616 + movedC k 0 (A.take i))).set (i + 1) (A.getD i 0 * 2 ^ k / 18446744073709551616) = rowM k A (i + 1) := by
 have e : (movedB k 0 (A.take i)).length = i := by rw [o_h4, List.length_take]; omega
 obtain ⟨r, hr⟩ : ∃ r, A.length = i + r + 1 := ⟨A.length - i - 1, by omega⟩
 rw [rowM, rowM, o_h3, o_h3, o_gv _ _ h, o_h5, o_h6, hr, show i + r + 1 - i = r + 1 by omega, show i + r + 1 - (i + 1) = r by omega, List.replicate_succ]
 simp only [List.append_assoc, List.cons_append, List.nil_append]
 rw [List.set_append_right _ _ (by omega), List.set_append_right _ _ (by omega), e]
 simp

def cellM (k : Nat) (A : List Nat) (i : Nat) : List V := U (rowM k A i)
@[simp] theorem o_iq (n : Nat) (l : List Nat) : V.lowl n (U l) = true := by induction l <;> simp_all [U, V.lowl, V.low]

set_option maxHeartbeats 1000000 in
theorem o_ir (A : List Nat) (k : Nat) (hk : k < 64) (hs : small A) (hn : A.length ≤ 1000000) : Eqn Tryz.prog o_ep [.d (W A), .d (.int .i64 k)] [] (.d (W (movedL k 0 A))) [] := by
 refine Eqn.pure o_er (o_58 _) ?_
 simp only [o_eq, W]
 refine G0 ?_; try with_reducible exact tt
 rw [show List.replicate (A.length + 1) (V.d (.int .u64 0)) = cellM k A 0 by rw [cellM, o_im]; simp [U]]
 have hlow : ∀ i, V.lowl 1 (cellM k A i) = true := fun i => o_iq 1 _
 refine AW.loopT (α := Nat) 1 (fun i => [(14, .d (.int .i64 (i : Int)))]) (fun i => [(0, ⟨194, cellM k A i⟩)]) (fun i => i ≤ A.length) (fun i => A.length - i) 0 ?_ ?_ (Nat.zero_le _) ?_ ?_ ?_
 ·simp
 ·simp
 ·simp
 ·simp [hlow]
 rintro i hi
 simp
 by_cases h : i = A.length
 ·subst h
  refine G0 ?_; try with_reducible exact tt
  refine AW.cond rfl (fun h => ?_) (fun h => ?_)
  ·simp at h
  refine AW.exit ?_
  (try (simp -implicitDefEqProofs; try simp (disch := omega) only [w64, wu64]))
  have hl : (movedL k 0 A).length = A.length + 1 := o_h0 _ _ _
  rw [cellM, o_in]
  generalize movedL k 0 A = ws at hl
  refine AW.freeze 0 1 ⟨194, _⟩ (ws.map fun x : Nat => .int .u64 x) (by rfl) (by simp) ?_
  simp [← hl, List.take_of_length_le]
  refine G0 ?_; try with_reducible exact tt
 ·have hi' : i < A.length := by omega
  have hp : (i : Int) < A.length := by omega
  obtain ⟨c, y, u, hl, hq, hor, hw, hd, hset⟩ : ∃ c z u : Nat, (cellM k A i).length = A.length + 1 ∧ (cellM k A i)[i]? = some (.d (.int .u64 c)) ∧ bits BinOp.or IntKind.u64 (c : Int) (IntKind.u64.wrap ((A[i] : Int) * 2 ^ k)) = (z : Int) ∧
    True ∧ (A[i] : Int) / 2 ^ (64 - k) = (u : Int) ∧ ((cellM k A i).set i (.d (.int .u64 z))).set (i + 1) (.d (.int .u64 u)) = cellM k A (i + 1) := by
   have hl := o_il k A i hi
   have hc := o_h8 (k := k) (l := A.take i) (c := 0) (hs.take i) (Nat.two_pow_pos k)
   have hset := o_ip k A i hi'
   rw [← o_hx hi'] at hset
   refine ⟨movedC k 0 (A.take i), A[i] * 2 ^ k % 18446744073709551616 + movedC k 0 (A.take i), A[i] * 2 ^ k / 18446744073709551616, by simp [cellM, U, hl], ?_, ?_, trivial, ?_, ?_⟩
   ·have := o_io k A i hi'
    rw [List.getD, List.getElem?_eq_getElem (by omega)] at this
    rw [cellM, U, List.getElem?_map, List.getElem?_eq_getElem (by omega)]
    simp at this
    simp [this]
   ·rw [show IntKind.u64.wrap ((A[i] : Int) * 2 ^ k) = ((A[i] * 2 ^ k % 18446744073709551616 : Nat) : Int) by rw [IntKind.wrap_u64, Int.natCast_emod, Int.natCast_mul, Int.natCast_pow]; rfl]
    rw [bits_or_u64_nat _ _ (Nat.lt_of_lt_of_le hc (by rw [show (18446744073709551616 : Nat) = 2 ^ 64 by rfl]; exact Nat.pow_le_pow_right (by decide) (by omega))) (Nat.mod_lt _ (by decide)), o_h9 hk hc]
   ·rw [o_ha (by omega), Int.natCast_ediv, Int.natCast_pow]; rfl
   ·rw [cellM, cellM, ← hset, U, U, List.map_set, List.map_set]
  have hn : ((64 : Int) - k).toNat = 64 - k := by omega
  have e1 : IntKind.i64.wrap ((i : Int) + 1) = (i : Int) + 1 := w64 (by omega) (by omega)
  have e2 : IntKind.i64.wrap ((64 : Int) - k) = (64 : Int) - k := w64 (by omega) (by omega)
  generalize cellM k A i = cm at hl hq hset
  refine G1 (fs hi' hp) ?_; try with_reducible exact tt
  refine AW.cond rfl (fun h => ?_) (fun h => ?_)
  ·clear h
   refine G1 (fs hi' (fs hp (fs hl (fs hq (fs hor (fs e1 (fs e2 (fs hn (fs hd hset))))))))) ?_; try with_reducible exact tt
   exact ⟨i + 1, by omega, by omega, by simp [wk], by simp [wkH, hlow]⟩
  ·simp at h
end
end Go.Proofs.YtmpjlkclkhnpfaaGreatDoor.Am
namespace Go.Proofs.YtmpjlkclkhnpfaaGreatDoor.Am
section
open Go.RowKit
set_option maxHeartbeats 1000000 in
theorem o_is (a n : Nat) (ha : size a ≤ 1000000) (hn : n ≤ 8192) : Eqn Tryz.prog o_ey [.d (.agg [natW a]), .d (.int .i64 n)] [] (.tup [.d (.agg [natW (a * 2 ^ n)]), .d (.int .i64 0)]) [] := by
 refine Eqn.pure o_f0 (o_ie _ _) ?_
 simp only [o_ez, natW, W]
 have h1 : ¬ (n : Int) < 0 := by omega
 have h2 : ¬ (8192 : Int) < n := by omega
 refine G1 (fs h1 h2) ?_; try with_reducible exact tt
 refine AW.cond rfl (fun h => ?_) (fun h => ?_)
 ·simp [h1, h2] at h
 have hq : (n : Int) / 64 = (n / 64 : Nat) := rfl
 have hr : (n : Int).tmod 64 = (n % 64 : Nat) := by rw [Int.tmod_eq_emod_of_nonneg (by omega)]; rfl
 have hd : n / 64 ≤ 128 := by omega
 have hm : n % 64 < 64 := by omega
 have hv : ∀ l : List Nat, wval l = a → wval (List.replicate (n / 64) 0 ++ movedL (n % 64) 0 l) = a * 2 ^ n := by
  intro l hl
  rw [o_gs, o_gt, o_h1, List.length_replicate, hl, Nat.zero_add, Nat.add_zero]
  rw [show (18446744073709551616 : Nat) = 2 ^ 64 by rfl, ← Nat.pow_mul, Nat.mul_left_comm, ← Nat.pow_add, Nat.div_add_mod]
 replace hv := hv (words a) (o_hp a)
 have hsm : small (List.replicate (n / 64) 0 ++ movedL (n % 64) 0 (words a)) := by
  intro x hx
  rcases List.mem_append.1 hx with hx | hx
  ·rw [List.eq_of_mem_replicate hx]; omega
  ·exact o_h2 hm (o_hq a) (Nat.two_pow_pos _) x hx
 have hl := o_h0 (n % 64) (words a) 0
 generalize n / 64 = q at *
 generalize n % 64 = r at *
 unfold size at ha
 refine G1 (fs hq hr) ?_; try with_reducible exact tt
 refine CallS.pu (o_ir (words a) r hm (o_hq a) (by omega)) ?_
 (try (simp -implicitDefEqProofs [W, hl]; try simp (disch := omega) only [w64, wu64]))
 repeat (first | refine AW.seq ?_ | refine AW.block ?_ | (refine AW.reg mix ?_; simp -implicitDefEqProofs [W, hl]; try simp (disch := omega) only [w64, wu64]) | (refine need.of (by first | omega | kernel_rfl) ?_) | (refine AW.fin ?_; try simp -implicitDefEqProofs [W, hl]))
 have hlen : (List.replicate q 0 ++ movedL r 0 (words a)).length = q + ((words a).length + 1) := by simp [hl]
 have hcell : List.replicate q (V.d (.int .u64 0)) ++ List.map (V.d ∘ fun x : Nat => D.int .u64 x) (movedL r 0 (words a)) = ((List.replicate q 0 ++ movedL r 0 (words a)).map fun x : Nat => D.int .u64 x).map V.d := by simp
 rw [hcell]
 generalize List.replicate q 0 ++ movedL r 0 (words a) = ws at *
 have hlen2 : q + ((words a).length + 1) = ws.length := hlen.symm
 refine CallS.pf 3 1 ⟨194, _⟩ (ws.map fun x : Nat => .int .u64 x) (o_hy ws hsm (by omega)) (by first | rfl | (simp [natW, W, hlen2, List.take_of_length_le]; done)) ?_
 (try (simp -implicitDefEqProofs [natW, W, hlen2, List.take_of_length_le]; try simp (disch := omega) only [w64, wu64]))
 repeat (first | refine AW.seq ?_ | refine AW.block ?_ | (refine AW.reg mix ?_; simp -implicitDefEqProofs [natW, W, hlen2, List.take_of_length_le]; try simp (disch := omega) only [w64, wu64]) | (refine need.of (by first | omega | kernel_rfl) ?_) | (refine AW.fin ?_; try simp -implicitDefEqProofs [natW, W, hlen2, List.take_of_length_le]))
 refine Sub1.of ?_
 rw [hv]
end
end Go.Proofs.YtmpjlkclkhnpfaaGreatDoor.Am
namespace Go.Proofs.YtmpjlkclkhnpfaaGreatDoor.Am
section
open Go.RowKit
theorem o_it {x : Nat} (h0 : 0 < x) (h : x < 18446744073709551616) : words x = [x] := by
 have := o_hs (ws := [x]) (by intro y hy; simp at hy; omega) (by intro k hk; simp at hk; subst hk; simp; omega)
 simpa [wval] using this
theorem o_iu {x : Nat} (h : x < 18446744073709551616) : small [x] := by intro y hy; simp at hy; omega

theorem Sub1.tup {l r : List V} (h : Subs l r) : Sub1 (.tup l) (.tup r) := fun m v k => by
 unfold V.rep at k ⊢
 obtain ⟨vs, h1, h2⟩ := k
 exact ⟨vs, h1, h m vs h2⟩
theorem Subs.cons {x y : V} {l r : List V} (h : Sub1 x y) (h' : Subs l r) : Subs (x :: l) (y :: r) := fun m vs k => by
 obtain ⟨v, r, rfl, h1, h2⟩ := V.reps_cons'.1 k
 exact V.reps_cons.2 ⟨h m v h1, h' m r h2⟩
theorem Sub1.nat0 : Sub1 (.d (.agg [.nilsl])) (.d (.agg [natW 0])) := fun m v k => by
 rw [V.rep_d] at k ⊢
 unfold D.rep at k ⊢
 obtain ⟨vs, h1, h2, h3⟩ := k
 refine ⟨vs, h1, h2, ?_⟩
 obtain ⟨u, r, rfl, h4, h5⟩ := D.reps_cons'.1 h3
 have := (V.rep_d (m := m)).1 (Sub1.nil m u (V.rep_d.2 h4))
 exact D.reps_cons.2 ⟨this, h5⟩

theorem o_iv {m n : Nat} : cmpZ m n < 0 ↔ m < n := by unfold cmpZ; split <;> (try split) <;> omega
theorem o_iw (x y : Nat) (hx : x < 18446744073709551616) (h0 : 0 < y) : Eqn Tryz.prog o_dg [.d (.int .u64 0), .d (.int .u64 x), .d (.int .u64 y)] [] (.tup [.d (.int .u64 (x / y : Nat)), .d (.int .u64 (x % y : Nat))]) [] := by
 refine Eqn.pure o_di (o_ie _ _) ?_
 simp only [o_dh]
 have h1 : ¬ (y : Int) = 0 := by omega
 have h1' : ¬ y = 0 := by omega
 have h2 : ¬ (y : Int) ≤ 0 := by omega
 refine G1 (fs h1 (fs h2 h1')) ?_; try with_reducible exact tt
 refine AW.cond rfl (fun h => ?_) (fun h => ?_)
 ·simp [h1'] at h
 refine G1 (fs h1 (fs h2 h1')) ?_; try with_reducible exact tt
 refine AW.cond rfl (fun h => ?_) (fun h => ?_)
 ·simp [h1', h2] at h
 refine G1 (fs h1 (fs h2 h1')) ?_; try with_reducible exact tt
 refine AW.cond rfl (fun h => ?_) (fun h => ?_)
 ·have hle := Nat.div_le_self x y
  have e1 : IntKind.u64.wrap ((x : Int) / y) = (x : Int) / y := by
   rw [← Int.natCast_ediv]
   generalize x / y = q at *
   exact wu64 (by omega) (by omega)
  have e2 : (x : Int).tmod y = ((x % y : Nat) : Int) := by rw [Int.tmod_eq_emod_of_nonneg (by omega)]; rfl
  refine G1 (fs h1 (fs h2 (fs h1' (fs e1 e2)))) ?_; try with_reducible exact tt
 ·simp at h

theorem o_ix (x y : Nat) (hx : x < 18446744073709551616) (h0 : 0 < y) (hy : y < 18446744073709551616) : Eqn Tryz.prog o_bj [.d (.sl 1 [.int .u64 x]), .d (.int .u64 y)] [] (.tup [.d (.sl 1 [.int .u64 (x / y : Nat)]), .d (.int .u64 (x % y : Nat))]) [] := by
 refine Eqn.pure o_bl (o_ie _ _) ?_
 simp only [o_bk]
 refine G0 ?_; try with_reducible exact tt
 refine AW.loopT (α := Nat) 1 (fun i => [(8, .d (.int .i64 ((i : Int) - 1))), (7, .d (.int .u64 (if i = 0 then (x % y : Nat) else 0)))]) (fun i => [(0, ⟨194, [.d (.int .u64 (if i = 0 then (x / y : Nat) else 0))]⟩)]) (fun i => i ≤ 1) (fun i => i) 1 ?_ ?_ (Nat.le_refl _) ?_ ?_ ?_
 ·simp
 ·simp
 ·simp
 ·simp
 rintro i hi
 simp
 cases i with
 | zero =>
  refine G0 ?_; try with_reducible exact tt
  refine AW.cond rfl (fun h => ?_) (fun h => ?_)
  ·simp at h
  refine AW.exit ?_
  (try (simp -implicitDefEqProofs; try simp (disch := omega) only [w64, wu64]))
  refine AW.freeze 0 1 ⟨194, _⟩ [.int .u64 (x / y : Nat)] (by rfl) (by simp) ?_
  simp
  refine G0 ?_; try with_reducible exact tt
 | succ i =>
  obtain rfl : i = 0 := by omega
  refine G0 ?_; try with_reducible exact tt
  refine AW.cond rfl (fun h => ?_) (fun h => ?_)
  ·refine G0 ?_; try with_reducible exact tt
   refine CallS.pu (o_iw x y hx h0) (R0 ?_); try with_reducible exact tt
   exact ⟨0, by omega, rfl, by simp, by simp⟩
  ·simp at h

theorem o_iy (a b : Nat) (ha : a < 18446744073709551616) (h0 : 0 < b) (hb : b < 18446744073709551616) : Eqn Tryz.prog o_by [.d (.agg [natW a]), .d (.agg [natW b])] [] (.tup [.d (.agg [natW (a / b)]), .d (.agg [natW (a % b)]), .d (.int .i64 0)]) [] := by
 refine Eqn.pure o_c0 (o_if _ _ _) ?_
 have sa : size a ≤ 1 := by
  rw [size]
  rcases Nat.eq_zero_or_pos a with rfl | h
  ·simp [words, wordsF]
  ·rw [o_it h ha]; simp
 have sb : size b ≤ 1 := by rw [size, o_it h0 hb]; simp
 simp only [o_bz]
 refine G0 ?_; try with_reducible exact tt
 refine CallS.pu (o_i0 b) (R0 ?_); try with_reducible exact tt
 have hz : (b == 0) = false := by simp; omega
 refine AW.cond rfl (fun h => ?_) (fun h => ?_)
 ·simp [hz] at h
 refine G0 ?_; try with_reducible exact tt
 refine CallS.pu (o_i2 a b (by omega) (by omega)) (R0 ?_); try with_reducible exact tt
 refine AW.cond rfl (fun h => ?_) (fun h => ?_)
 ·have hlt : a < b := by simpa [o_iv] using h
  rw [Nat.div_eq_of_lt hlt, Nat.mod_eq_of_lt hlt]
  refine G0 ?_; try with_reducible exact tt
  refine CallS.pu (o_hz (words a) (o_hq a) (by unfold size at sa; omega)) (R0 ?_); try with_reducible exact tt
  rw [o_hp]
  exact Sub1.tup (Subs.cons (Sub1.nat0) (Subs.refl _))
 ·have hge : ¬ a < b := fun hlt => by simp [o_iv, hlt] at h
  have e : natW a = .sl 1 [.int .u64 a] := by rw [natW, o_it (by omega) ha]; rfl
  have e' : natW b = .sl 1 [.int .u64 b] := by rw [natW, o_it (by omega) hb]; rfl
  refine G1 (fs e e') ?_; try with_reducible exact tt
  refine AW.cond rfl (fun h => ?_) (fun h => ?_)
  ·refine G1 (fs e e') ?_; try with_reducible exact tt
   refine CallS.pu (o_ix a b ha h0 hb) (R0 ?_); try with_reducible exact tt
   refine CallS.pu (o_hy [a / b] (o_iu (by have := Nat.div_le_self a b; omega)) (by simp)) (R0 ?_); try with_reducible exact tt
   refine CallS.pf 4 1 ⟨194, _⟩ [.int .u64 (a % b : Nat)] (o_hz [a % b] (o_iu (by have := Nat.mod_lt a h0; omega)) (by simp)) (by first | rfl | (simp; done)) (R0 ?_); try with_reducible exact tt
   simp [wval]
  ·simp [e'] at h
theorem o_iz (a b : Nat) (ha : a < 18446744073709551616) (hb : b < 18446744073709551616) : Eqn Tryz.prog o_bv [.d (.agg [natW a]), .d (.agg [natW b])] [] (.d (.agg [natW (Nat.gcd a b)])) [] := by
 refine Eqn.pure o_bx (o_58 _) ?_
 simp only [o_bw]
 refine G0 ?_; try with_reducible exact tt
 refine AW.loopT (α := Nat × Nat) 3 (fun _ => []) (fun p => [(0, ⟨25, [.d (natW p.1)]⟩), (1, ⟨25, [.d (natW p.2)]⟩)]) (fun p => p.1 < 18446744073709551616 ∧ p.2 < 18446744073709551616 ∧ Nat.gcd p.1 p.2 = Nat.gcd a b) (fun p => p.2) (a, b) ?_ ?_ ⟨ha, hb, rfl⟩ ?_ ?_ ?_
 ·simp
 ·simp
 ·simp
 ·simp
 rintro ⟨x, y⟩ ⟨hx, hy, hg⟩
 simp only at hx hy hg
 simp
 refine G0 ?_; try with_reducible exact tt
 refine CallS.pu (o_i0 y) (R0 ?_); try with_reducible exact tt
 by_cases h0 : y = 0
 ·subst h0
  simp
  refine AW.cond rfl (fun h => ?_) (fun h => ?_)
  ·simp at h
  refine AW.exit ?_
  (try (simp -implicitDefEqProofs; try simp (disch := omega) only [w64, wu64]))
  have sx : size x ≤ 1 := by
   rw [size]
   rcases Nat.eq_zero_or_pos x with rfl | h
   ·simp [words, wordsF]
   ·rw [o_it h hx]; simp
  refine G0 ?_; try with_reducible exact tt
  refine CallS.pu (o_hz (words x) (o_hq x) (by unfold size at sx; omega)) (R0 ?_); try with_reducible exact tt
  refine Sub1.of ?_
  rw [o_hp, ← hg, Nat.gcd_zero_right]
 ·refine AW.cond rfl (fun h => ?_) (fun h => ?_)
  ·refine G0 ?_; try with_reducible exact tt
   refine CallS.pu (o_iy x y hx (by omega) hy) (R0 ?_); try with_reducible exact tt
   have hlt := Nat.mod_lt x (show y > 0 by omega)
   exact ⟨y, x % y, ⟨hy, by omega, by rw [← hg, Nat.gcd_comm y, ← Nat.gcd_rec, Nat.gcd_comm]⟩, hlt, Subs.refl _, Subs.refl _⟩
  ·simp at h
   exact absurd h h0
end
end Go.Proofs.YtmpjlkclkhnpfaaGreatDoor.Am
