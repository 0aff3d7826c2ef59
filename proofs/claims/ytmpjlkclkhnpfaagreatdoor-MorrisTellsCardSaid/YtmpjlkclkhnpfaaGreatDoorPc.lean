/- Parts of the proof: AmTac, CodeD, WordsM, Nat1, Nat2, Nat3, Nat4, Nat5, Nat6, Rat1, Text1, TxtM, YuM. -/
import Derived.Test.YtmpjlkclkhnpfaaGreatDoorPb
set_option linter.unusedVariables false
set_option linter.unusedSimpArgs false
set_option maxRecDepth 100000
namespace Go.Proofs.YtmpjlkclkhnpfaaGreatDoor.Am
section
open Go.RowKit
inductive Tri : Prop → Prop
 | tt : Tri True
 | any (p : Prop) : Tri p
structure Hid (p : Prop) : Prop where
 v : p
theorem tt : True := True.intro
theorem fs {a b : Prop} (x : a) (y : b) : a ∧ b := And.intro x y
theorem G0 {q p : Prop} (hp : p) (h : (Hid p → q) ∧ Tri p := by
 constructor
 ·intro hp
  repeat (first | refine AW.seq ?_ | refine AW.block ?_ | (refine AW.reg mix ?_; (simp -implicitDefEqProofs; try simp (disch := omega) only [w64, wu64])) | (refine need.of (by first | omega | kernel_rfl) ?_) | (refine AW.fin ?_; try (simp -implicitDefEqProofs; try simp (disch := omega) only [w64, wu64])))
  try exact hp.v
 ·with_reducible first | exact Tri.tt | exact Tri.any _) : q := (h).1 ⟨hp⟩
theorem R0 {q p : Prop} (hp : p) (h : (Hid p → q) ∧ Tri p := by
 constructor
 ·intro hp
  try (simp -implicitDefEqProofs; try simp (disch := omega) only [w64, wu64])
  repeat (first | refine AW.seq ?_ | refine AW.block ?_ | (refine AW.reg mix ?_; (simp -implicitDefEqProofs; try simp (disch := omega) only [w64, wu64])) | (refine need.of (by first | omega | kernel_rfl) ?_) | (refine AW.fin ?_; try (simp -implicitDefEqProofs; try simp (disch := omega) only [w64, wu64])))
  try exact hp.v
 ·with_reducible first | exact Tri.tt | exact Tri.any _) : q := (h).1 ⟨hp⟩
theorem A00 {q p : Prop} (hp : p) (h : (Hid p → q) ∧ Tri p := by
 constructor
 ·intro hp
  repeat (first | refine AW.seq ?_ | refine AW.block ?_ | (refine AW.reg mix ?_; (simp -implicitDefEqProofs; try simp (disch := omega) only [w64, wu64])) | (refine need.of (by first | omega | kernel_rfl) ?_) | (refine AW.fin ?_; try (simp -implicitDefEqProofs; try simp (disch := omega) only [w64, wu64])) | (refine AW.cond rfl ?_ (fun _ => ?_); focus (intro h; simp -implicitDefEqProofs at h; done)) | (refine AW.cond rfl (fun _ => ?_) ?_; rotate_left; focus (intro h; simp -implicitDefEqProofs at h; done)))
  try exact hp.v
 ·with_reducible first | exact Tri.tt | exact Tri.any _) : q := (h).1 ⟨hp⟩
theorem A01 {q p c1 : Prop} (k1 : c1) (hp : p) (h : c1 → (Hid p → q) ∧ Tri p := by
 intro c1
 constructor
 ·intro hp
  repeat (first | refine AW.seq ?_ | refine AW.block ?_ | (refine AW.reg mix ?_; (simp -implicitDefEqProofs; try simp (disch := omega) only [w64, wu64])) | (refine need.of (by first | omega | kernel_rfl) ?_) | (refine AW.fin ?_; try (simp -implicitDefEqProofs; try simp (disch := omega) only [w64, wu64])) | (refine AW.cond rfl ?_ (fun _ => ?_); focus (intro h; simp -implicitDefEqProofs at h; done)) | (refine AW.cond rfl (fun _ => ?_) ?_; rotate_left; focus (intro h; simp -implicitDefEqProofs at h; done)) | (refine CallS.pu c1 ?_; try (simp -implicitDefEqProofs; try simp (disch := omega) only [w64, wu64])) | refine Exists.intro _ (And.intro c1 ?_))
  try exact hp.v
 ·with_reducible first | exact Tri.tt | exact Tri.any _) : q := (h k1).1 ⟨hp⟩
theorem A02 {q p c1 c2 : Prop} (k1 : c1) (k2 : c2) (hp : p) (h : c1 → c2 → (Hid p → q) ∧ Tri p := by
 intro c1 c2
 constructor
 ·intro hp
  repeat (first | refine AW.seq ?_ | refine AW.block ?_ | (refine AW.reg mix ?_; (simp -implicitDefEqProofs; try simp (disch := omega) only [w64, wu64])) | (refine need.of (by first | omega | kernel_rfl) ?_) | (refine AW.fin ?_; try (simp -implicitDefEqProofs; try simp (disch := omega) only [w64, wu64])) | (refine AW.cond rfl ?_ (fun _ => ?_); focus (intro h; simp -implicitDefEqProofs at h; done)) | (refine AW.cond rfl (fun _ => ?_) ?_; rotate_left; focus (intro h; simp -implicitDefEqProofs at h; done)) | (refine CallS.pu c1 ?_; try (simp -implicitDefEqProofs; try simp (disch := omega) only [w64, wu64])) | refine Exists.intro _ (And.intro c1 ?_) | (refine CallS.pu c2 ?_; try (simp -implicitDefEqProofs; try simp (disch := omega) only [w64, wu64])) | refine Exists.intro _ (And.intro c2 ?_))
  try exact hp.v
 ·with_reducible first | exact Tri.tt | exact Tri.any _) : q := (h k1 k2).1 ⟨hp⟩
theorem A04 {q p c1 c2 c3 c4 : Prop} (k1 : c1) (k2 : c2) (k3 : c3) (k4 : c4) (hp : p) (h : c1 → c2 → c3 → c4 → (Hid p → q) ∧ Tri p := by
 intro c1 c2 c3 c4
 constructor
 ·intro hp
  repeat (first | refine AW.seq ?_ | refine AW.block ?_ | (refine AW.reg mix ?_; (simp -implicitDefEqProofs; try simp (disch := omega) only [w64, wu64])) | (refine need.of (by first | omega | kernel_rfl) ?_) | (refine AW.fin ?_; try (simp -implicitDefEqProofs; try simp (disch := omega) only [w64, wu64])) | (refine AW.cond rfl ?_ (fun _ => ?_); focus (intro h; simp -implicitDefEqProofs at h; done)) | (refine AW.cond rfl (fun _ => ?_) ?_; rotate_left; focus (intro h; simp -implicitDefEqProofs at h; done)) | (refine CallS.pu c1 ?_; try (simp -implicitDefEqProofs; try simp (disch := omega) only [w64, wu64])) | refine Exists.intro _ (And.intro c1 ?_) | (refine CallS.pu c2 ?_; try (simp -implicitDefEqProofs; try simp (disch := omega) only [w64, wu64])) | refine Exists.intro _ (And.intro c2 ?_) | (refine CallS.pu c3 ?_; try (simp -implicitDefEqProofs; try simp (disch := omega) only [w64, wu64])) | refine Exists.intro _ (And.intro c3 ?_) | (refine CallS.pu c4 ?_; try (simp -implicitDefEqProofs; try simp (disch := omega) only [w64, wu64])) | refine Exists.intro _ (And.intro c4 ?_))
  try exact hp.v
 ·with_reducible first | exact Tri.tt | exact Tri.any _) : q := (h k1 k2 k3 k4).1 ⟨hp⟩
theorem G1 {q f1 : Prop} {p : f1 → Prop} (f : f1) (hp : (p f)) (h : ∀ f1 : f1, (Hid (p f1) → q) ∧ Tri (p f1) := by
 intro f1
 constructor
 ·intro hp
  repeat (first | refine AW.seq ?_ | refine AW.block ?_ | (refine AW.reg mix ?_; (simp -implicitDefEqProofs [f1]; try simp (disch := omega) only [w64, wu64])) | (refine need.of (by first | omega | kernel_rfl) ?_) | (refine AW.fin ?_; try (simp -implicitDefEqProofs [f1]; try simp (disch := omega) only [w64, wu64])))
  try exact hp.v
 ·with_reducible first | exact Tri.tt | exact Tri.any _) : q := (h f).1 ⟨hp⟩
theorem R1 {q f1 : Prop} {p : f1 → Prop} (f : f1) (hp : (p f)) (h : ∀ f1 : f1, (Hid (p f1) → q) ∧ Tri (p f1) := by
 intro f1
 constructor
 ·intro hp
  try (simp -implicitDefEqProofs [f1]; try simp (disch := omega) only [w64, wu64])
  repeat (first | refine AW.seq ?_ | refine AW.block ?_ | (refine AW.reg mix ?_; (simp -implicitDefEqProofs [f1]; try simp (disch := omega) only [w64, wu64])) | (refine need.of (by first | omega | kernel_rfl) ?_) | (refine AW.fin ?_; try (simp -implicitDefEqProofs [f1]; try simp (disch := omega) only [w64, wu64])))
  try exact hp.v
 ·with_reducible first | exact Tri.tt | exact Tri.any _) : q := (h f).1 ⟨hp⟩
theorem A10 {q f1 : Prop} {p : f1 → Prop} (f : f1) (hp : (p f)) (h : ∀ f1 : f1, (Hid (p f1) → q) ∧ Tri (p f1) := by
 intro f1
 constructor
 ·intro hp
  repeat (first | refine AW.seq ?_ | refine AW.block ?_ | (refine AW.reg mix ?_; (simp -implicitDefEqProofs [f1]; try simp (disch := omega) only [w64, wu64])) | (refine need.of (by first | omega | kernel_rfl) ?_) | (refine AW.fin ?_; try (simp -implicitDefEqProofs [f1]; try simp (disch := omega) only [w64, wu64])) | (refine AW.cond rfl ?_ (fun _ => ?_); focus (intro h; simp -implicitDefEqProofs [f1] at h; done)) | (refine AW.cond rfl (fun _ => ?_) ?_; rotate_left; focus (intro h; simp -implicitDefEqProofs [f1] at h; done)))
  try exact hp.v
 ·with_reducible first | exact Tri.tt | exact Tri.any _) : q := (h f).1 ⟨hp⟩
theorem A11 {q f1 c1 : Prop} {p : f1 → Prop} (f : f1) (k1 : c1) (hp : (p f)) (h : ∀ f1 : f1, c1 → (Hid (p f1) → q) ∧ Tri (p f1) := by
 intro f1 c1
 constructor
 ·intro hp
  repeat (first | refine AW.seq ?_ | refine AW.block ?_ | (refine AW.reg mix ?_; (simp -implicitDefEqProofs [f1]; try simp (disch := omega) only [w64, wu64])) | (refine need.of (by first | omega | kernel_rfl) ?_) | (refine AW.fin ?_; try (simp -implicitDefEqProofs [f1]; try simp (disch := omega) only [w64, wu64])) | (refine AW.cond rfl ?_ (fun _ => ?_); focus (intro h; simp -implicitDefEqProofs [f1] at h; done)) | (refine AW.cond rfl (fun _ => ?_) ?_; rotate_left; focus (intro h; simp -implicitDefEqProofs [f1] at h; done)) | (refine CallS.pu c1 ?_; try (simp -implicitDefEqProofs [f1]; try simp (disch := omega) only [w64, wu64])) | refine Exists.intro _ (And.intro c1 ?_))
  try exact hp.v
 ·with_reducible first | exact Tri.tt | exact Tri.any _) : q := (h f k1).1 ⟨hp⟩
theorem A12 {q f1 c1 c2 : Prop} {p : f1 → Prop} (f : f1) (k1 : c1) (k2 : c2) (hp : (p f)) (h : ∀ f1 : f1, c1 → c2 → (Hid (p f1) → q) ∧ Tri (p f1) := by
 intro f1 c1 c2
 constructor
 ·intro hp
  repeat (first | refine AW.seq ?_ | refine AW.block ?_ | (refine AW.reg mix ?_; (simp -implicitDefEqProofs [f1]; try simp (disch := omega) only [w64, wu64])) | (refine need.of (by first | omega | kernel_rfl) ?_) | (refine AW.fin ?_; try (simp -implicitDefEqProofs [f1]; try simp (disch := omega) only [w64, wu64])) | (refine AW.cond rfl ?_ (fun _ => ?_); focus (intro h; simp -implicitDefEqProofs [f1] at h; done)) | (refine AW.cond rfl (fun _ => ?_) ?_; rotate_left; focus (intro h; simp -implicitDefEqProofs [f1] at h; done)) | (refine CallS.pu c1 ?_; try (simp -implicitDefEqProofs [f1]; try simp (disch := omega) only [w64, wu64])) | refine Exists.intro _ (And.intro c1 ?_) | (refine CallS.pu c2 ?_; try (simp -implicitDefEqProofs [f1]; try simp (disch := omega) only [w64, wu64])) | refine Exists.intro _ (And.intro c2 ?_))
  try exact hp.v
 ·with_reducible first | exact Tri.tt | exact Tri.any _) : q := (h f k1 k2).1 ⟨hp⟩
theorem A13 {q f1 c1 c2 c3 : Prop} {p : f1 → Prop} (f : f1) (k1 : c1) (k2 : c2) (k3 : c3) (hp : (p f)) (h : ∀ f1 : f1, c1 → c2 → c3 → (Hid (p f1) → q) ∧ Tri (p f1) := by
 intro f1 c1 c2 c3
 constructor
 ·intro hp
  repeat (first | refine AW.seq ?_ | refine AW.block ?_ | (refine AW.reg mix ?_; (simp -implicitDefEqProofs [f1]; try simp (disch := omega) only [w64, wu64])) | (refine need.of (by first | omega | kernel_rfl) ?_) | (refine AW.fin ?_; try (simp -implicitDefEqProofs [f1]; try simp (disch := omega) only [w64, wu64])) | (refine AW.cond rfl ?_ (fun _ => ?_); focus (intro h; simp -implicitDefEqProofs [f1] at h; done)) | (refine AW.cond rfl (fun _ => ?_) ?_; rotate_left; focus (intro h; simp -implicitDefEqProofs [f1] at h; done)) | (refine CallS.pu c1 ?_; try (simp -implicitDefEqProofs [f1]; try simp (disch := omega) only [w64, wu64])) | refine Exists.intro _ (And.intro c1 ?_) | (refine CallS.pu c2 ?_; try (simp -implicitDefEqProofs [f1]; try simp (disch := omega) only [w64, wu64])) | refine Exists.intro _ (And.intro c2 ?_) | (refine CallS.pu c3 ?_; try (simp -implicitDefEqProofs [f1]; try simp (disch := omega) only [w64, wu64])) | refine Exists.intro _ (And.intro c3 ?_))
  try exact hp.v
 ·with_reducible first | exact Tri.tt | exact Tri.any _) : q := (h f k1 k2 k3).1 ⟨hp⟩
theorem A14 {q f1 c1 c2 c3 c4 : Prop} {p : f1 → Prop} (f : f1) (k1 : c1) (k2 : c2) (k3 : c3) (k4 : c4) (hp : (p f)) (h : ∀ f1 : f1, c1 → c2 → c3 → c4 → (Hid (p f1) → q) ∧ Tri (p f1) := by
 intro f1 c1 c2 c3 c4
 constructor
 ·intro hp
  repeat (first | refine AW.seq ?_ | refine AW.block ?_ | (refine AW.reg mix ?_; (simp -implicitDefEqProofs [f1]; try simp (disch := omega) only [w64, wu64])) | (refine need.of (by first | omega | kernel_rfl) ?_) | (refine AW.fin ?_; try (simp -implicitDefEqProofs [f1]; try simp (disch := omega) only [w64, wu64])) | (refine AW.cond rfl ?_ (fun _ => ?_); focus (intro h; simp -implicitDefEqProofs [f1] at h; done)) | (refine AW.cond rfl (fun _ => ?_) ?_; rotate_left; focus (intro h; simp -implicitDefEqProofs [f1] at h; done)) | (refine CallS.pu c1 ?_; try (simp -implicitDefEqProofs [f1]; try simp (disch := omega) only [w64, wu64])) | refine Exists.intro _ (And.intro c1 ?_) | (refine CallS.pu c2 ?_; try (simp -implicitDefEqProofs [f1]; try simp (disch := omega) only [w64, wu64])) | refine Exists.intro _ (And.intro c2 ?_) | (refine CallS.pu c3 ?_; try (simp -implicitDefEqProofs [f1]; try simp (disch := omega) only [w64, wu64])) | refine Exists.intro _ (And.intro c3 ?_) | (refine CallS.pu c4 ?_; try (simp -implicitDefEqProofs [f1]; try simp (disch := omega) only [w64, wu64])) | refine Exists.intro _ (And.intro c4 ?_))
  try exact hp.v
 ·with_reducible first | exact Tri.tt | exact Tri.any _) : q := (h f k1 k2 k3 k4).1 ⟨hp⟩
theorem A16 {q f1 c1 c2 c3 c4 c5 c6 : Prop} {p : f1 → Prop} (f : f1) (k1 : c1) (k2 : c2) (k3 : c3) (k4 : c4) (k5 : c5) (k6 : c6) (hp : (p f)) (h : ∀ f1 : f1, c1 → c2 → c3 → c4 → c5 → c6 → (Hid (p f1) → q) ∧ Tri (p f1) := by
 intro f1 c1 c2 c3 c4 c5 c6
 constructor
 ·intro hp
  repeat (first | refine AW.seq ?_ | refine AW.block ?_ | (refine AW.reg mix ?_; (simp -implicitDefEqProofs [f1]; try simp (disch := omega) only [w64, wu64])) | (refine need.of (by first | omega | kernel_rfl) ?_) | (refine AW.fin ?_; try (simp -implicitDefEqProofs [f1]; try simp (disch := omega) only [w64, wu64])) | (refine AW.cond rfl ?_ (fun _ => ?_); focus (intro h; simp -implicitDefEqProofs [f1] at h; done)) | (refine AW.cond rfl (fun _ => ?_) ?_; rotate_left; focus (intro h; simp -implicitDefEqProofs [f1] at h; done)) | (refine CallS.pu c1 ?_; try (simp -implicitDefEqProofs [f1]; try simp (disch := omega) only [w64, wu64])) | refine Exists.intro _ (And.intro c1 ?_) | (refine CallS.pu c2 ?_; try (simp -implicitDefEqProofs [f1]; try simp (disch := omega) only [w64, wu64])) | refine Exists.intro _ (And.intro c2 ?_) | (refine CallS.pu c3 ?_; try (simp -implicitDefEqProofs [f1]; try simp (disch := omega) only [w64, wu64])) | refine Exists.intro _ (And.intro c3 ?_) | (refine CallS.pu c4 ?_; try (simp -implicitDefEqProofs [f1]; try simp (disch := omega) only [w64, wu64])) | refine Exists.intro _ (And.intro c4 ?_) | (refine CallS.pu c5 ?_; try (simp -implicitDefEqProofs [f1]; try simp (disch := omega) only [w64, wu64])) | refine Exists.intro _ (And.intro c5 ?_) | (refine CallS.pu c6 ?_; try (simp -implicitDefEqProofs [f1]; try simp (disch := omega) only [w64, wu64])) | refine Exists.intro _ (And.intro c6 ?_))
  try exact hp.v
 ·with_reducible first | exact Tri.tt | exact Tri.any _) : q := (h f k1 k2 k3 k4 k5 k6).1 ⟨hp⟩
theorem A18 {q f1 c1 c2 c3 c4 c5 c6 c7 c8 : Prop} {p : f1 → Prop} (f : f1) (k1 : c1) (k2 : c2) (k3 : c3) (k4 : c4) (k5 : c5) (k6 : c6) (k7 : c7) (k8 : c8) (hp : (p f)) (h : ∀ f1 : f1, c1 → c2 → c3 → c4 → c5 → c6 → c7 → c8 → (Hid (p f1) → q) ∧ Tri (p f1) := by
 intro f1 c1 c2 c3 c4 c5 c6 c7 c8
 constructor
 ·intro hp
  repeat (first | refine AW.seq ?_ | refine AW.block ?_ | (refine AW.reg mix ?_; (simp -implicitDefEqProofs [f1]; try simp (disch := omega) only [w64, wu64])) | (refine need.of (by first | omega | kernel_rfl) ?_) | (refine AW.fin ?_; try (simp -implicitDefEqProofs [f1]; try simp (disch := omega) only [w64, wu64])) | (refine AW.cond rfl ?_ (fun _ => ?_); focus (intro h; simp -implicitDefEqProofs [f1] at h; done)) | (refine AW.cond rfl (fun _ => ?_) ?_; rotate_left; focus (intro h; simp -implicitDefEqProofs [f1] at h; done)) | (refine CallS.pu c1 ?_; try (simp -implicitDefEqProofs [f1]; try simp (disch := omega) only [w64, wu64])) | refine Exists.intro _ (And.intro c1 ?_) | (refine CallS.pu c2 ?_; try (simp -implicitDefEqProofs [f1]; try simp (disch := omega) only [w64, wu64])) | refine Exists.intro _ (And.intro c2 ?_) | (refine CallS.pu c3 ?_; try (simp -implicitDefEqProofs [f1]; try simp (disch := omega) only [w64, wu64])) | refine Exists.intro _ (And.intro c3 ?_) | (refine CallS.pu c4 ?_; try (simp -implicitDefEqProofs [f1]; try simp (disch := omega) only [w64, wu64])) | refine Exists.intro _ (And.intro c4 ?_) | (refine CallS.pu c5 ?_; try (simp -implicitDefEqProofs [f1]; try simp (disch := omega) only [w64, wu64])) | refine Exists.intro _ (And.intro c5 ?_) | (refine CallS.pu c6 ?_; try (simp -implicitDefEqProofs [f1]; try simp (disch := omega) only [w64, wu64])) | refine Exists.intro _ (And.intro c6 ?_) | (refine CallS.pu c7 ?_; try (simp -implicitDefEqProofs [f1]; try simp (disch := omega) only [w64, wu64])) | refine Exists.intro _ (And.intro c7 ?_) | (refine CallS.pu c8 ?_; try (simp -implicitDefEqProofs [f1]; try simp (disch := omega) only [w64, wu64])) | refine Exists.intro _ (And.intro c8 ?_))
  try exact hp.v
 ·with_reducible first | exact Tri.tt | exact Tri.any _) : q := (h f k1 k2 k3 k4 k5 k6 k7 k8).1 ⟨hp⟩
theorem A110 {q f1 c1 c2 c3 c4 c5 c6 c7 c8 c9 c10 : Prop} {p : f1 → Prop} (f : f1) (k1 : c1) (k2 : c2) (k3 : c3) (k4 : c4) (k5 : c5) (k6 : c6) (k7 : c7) (k8 : c8) (k9 : c9) (k10 : c10) (hp : (p f)) (h : ∀ f1 : f1, c1 → c2 → c3 → c4 → c5 → c6 → c7 → c8 → c9 → c10 → (Hid (p f1) → q) ∧ Tri (p f1) := by
 intro f1 c1 c2 c3 c4 c5 c6 c7 c8 c9 c10
 constructor
 ·intro hp
  repeat (first | refine AW.seq ?_ | refine AW.block ?_ | (refine AW.reg mix ?_; (simp -implicitDefEqProofs [f1]; try simp (disch := omega) only [w64, wu64])) | (refine need.of (by first | omega | kernel_rfl) ?_) | (refine AW.fin ?_; try (simp -implicitDefEqProofs [f1]; try simp (disch := omega) only [w64, wu64])) | (refine AW.cond rfl ?_ (fun _ => ?_); focus (intro h; simp -implicitDefEqProofs [f1] at h; done)) | (refine AW.cond rfl (fun _ => ?_) ?_; rotate_left; focus (intro h; simp -implicitDefEqProofs [f1] at h; done)) | (refine CallS.pu c1 ?_; try (simp -implicitDefEqProofs [f1]; try simp (disch := omega) only [w64, wu64])) | refine Exists.intro _ (And.intro c1 ?_) | (refine CallS.pu c2 ?_; try (simp -implicitDefEqProofs [f1]; try simp (disch := omega) only [w64, wu64])) | refine Exists.intro _ (And.intro c2 ?_) | (refine CallS.pu c3 ?_; try (simp -implicitDefEqProofs [f1]; try simp (disch := omega) only [w64, wu64])) | refine Exists.intro _ (And.intro c3 ?_) | (refine CallS.pu c4 ?_; try (simp -implicitDefEqProofs [f1]; try simp (disch := omega) only [w64, wu64])) | refine Exists.intro _ (And.intro c4 ?_) | (refine CallS.pu c5 ?_; try (simp -implicitDefEqProofs [f1]; try simp (disch := omega) only [w64, wu64])) | refine Exists.intro _ (And.intro c5 ?_) | (refine CallS.pu c6 ?_; try (simp -implicitDefEqProofs [f1]; try simp (disch := omega) only [w64, wu64])) | refine Exists.intro _ (And.intro c6 ?_) | (refine CallS.pu c7 ?_; try (simp -implicitDefEqProofs [f1]; try simp (disch := omega) only [w64, wu64])) | refine Exists.intro _ (And.intro c7 ?_) | (refine CallS.pu c8 ?_; try (simp -implicitDefEqProofs [f1]; try simp (disch := omega) only [w64, wu64])) | refine Exists.intro _ (And.intro c8 ?_) | (refine CallS.pu c9 ?_; try (simp -implicitDefEqProofs [f1]; try simp (disch := omega) only [w64, wu64])) | refine Exists.intro _ (And.intro c9 ?_) | (refine CallS.pu c10 ?_; try (simp -implicitDefEqProofs [f1]; try simp (disch := omega) only [w64, wu64])) | refine Exists.intro _ (And.intro c10 ?_))
  try exact hp.v
 ·with_reducible first | exact Tri.tt | exact Tri.any _) : q := (h f k1 k2 k3 k4 k5 k6 k7 k8 k9 k10).1 ⟨hp⟩
end
end Go.Proofs.YtmpjlkclkhnpfaaGreatDoor.Am
namespace Go.Proofs.YtmpjlkclkhnpfaaGreatDoor.Am
section
open Go.Proofs.YtmpjlkclkhnpfaaGreatDoor.Am
theorem mix : Tryz.prog.follows .mixedOrders = true := by kernel_rfl
@[simp] def om_ (d s : Nat) (l : List Nat) : O := ⟨some d, .mv (.t s), none, l⟩
@[simp] def oo_ (d : Nat) (a : A) (l : List Nat) : O := ⟨some d, a, none, l⟩
@[simp] def og_ (d : Nat) (a : A) (s : Nat) (b : Bool) (l : List Nat) : O := ⟨some d, a, some (s, b), l⟩
@[simp] def on_ (a : A) (l : List Nat) : O := ⟨none, a, none, l⟩

abbrev o_6a : FuncId := 3
def o_6b : C := (.seq (.reg false [oo_ 4 (.mv (.d (.bool false))) []]) (.seq (.seq (.reg false [oo_ 16 (.call 14 []) [],oo_ 17 (.un .not (.t 16)) [0]]) (.cond (.t 17) (.seq (.reg false [oo_ 4 (.mv (.d (.bool false))) []]) .ret) .skip))
 (.seq (.reg false [om_ 19 0 [],om_ 20 1 [],oo_ 21 (.call 15 [(.t 19),(.t 20)]) [0,1],om_ 18 21 [2],oo_ 22 (.ext (.t 18) 0) [3],oo_ 23 (.ext (.t 18) 1) [3],oo_ 5 (.new 29 [.nilsl,(.bool false),.nilsl]) [],on_ (.store 3
 (.t 5) (.t 22)) [6,4,2,0,1,2,3,4,6],om_ 6 23 [5,7,0,1,2,3,4,5,6,7]]) (.seq (.reg false [om_ 25 0 [],om_ 26 1 [],oo_ 27 (.call 16 [(.t 25),(.t 26)]) [0,1],om_ 24 27 [2],oo_ 28 (.ext (.t 24) 0) [3],oo_ 29 (.ext (.t 24) 1)
 [3],oo_ 7 (.new 29 [.nilsl,(.bool false),.nilsl]) [],on_ (.store 3 (.t 7) (.t 28)) [6,4,2,0,1,2,3,4,6],om_ 8 29 [5,7,0,1,2,3,4,5,6,7]]) (.seq (.reg false [om_ 30 0 [],om_ 31 1 [],oo_ 32 (.call 17 [(.t 30),(.t 31)])
 [0,1],om_ 9 32 [2,2,0,1,2]]) (.seq (.seq (.reg false [om_ 33 0 [],oo_ 34 (.call 18 [(.t 33)]) [0],om_ 35 0 [],oo_ 36 (.call 17 [(.t 35),(.d (.int .i64 0))]) [2,1],oo_ 37 (.bin .eql (.t 36) (.d (.int .i64 0))) [3],oo_ 38
 (.beq true (.t 34) (.t 37)) [1,4]]) (.cond (.t 38) (.seq (.reg false [oo_ 4 (.mv (.d (.bool false))) []]) .ret) .skip)) (.seq (.seq (.reg false [om_ 39 9 [],oo_ 40 (.bin .neq (.t 39) (.d (.int .i64 0))) [0]]) (.cond (.t
 40) (.seq (.reg false [om_ 41 6 [],om_ 42 9 [],oo_ 43 (.bin .eql (.t 41) (.t 42)) [0,1],om_ 44 43 [2],og_ 45 (.mv (.t 8)) 44 true [3],og_ 46 (.mv (.t 9)) 44 true [3],og_ 47 (.bin .eql (.t 45) (.t 46)) 44 true
 [4,5,3],oo_ 48 (.pick (.t 44) (.t 47) (.d (.bool false))) [3,6],om_ 49 48 [7,3],og_ 50 (.load true 3 (.t 5)) 49 true [8],og_ 51 (.call 19 [(.t 50)]) 49 true [9,8,8],⟨some 52,.bin .eql (.t 51) (.d (.str ⟨#[48]⟩)),some
 (49,true),[10,8]⟩,oo_ 53 (.pick (.t 49) (.t 52) (.d (.bool false))) [8,11],om_ 54 53 [12,10],og_ 55 (.load true 3 (.t 7)) 54 true [13],og_ 56 (.call 19 [(.t 55)]) 54 true [14,13,13],⟨some 57,.bin .eql (.t 56) (.d (.str
 ⟨#[48]⟩)),some (54,true),[15,13]⟩,oo_ 58 (.pick (.t 54) (.t 57) (.d (.bool false))) [13,16],om_ 4 58 [17,15,0,1,2,3,4,5,6,7,8,9,10,11,12,13,14,15,16,17]]) .ret) .skip)) (.seq (.seq (.reg false [om_ 59 1 [],oo_ 60 (.bin
 .gtr (.t 59) (.d (.int .i64 24))) [0]]) (.cond (.t 60) (.seq (.seq (.reg false [om_ 61 6 [],oo_ 62 (.bin .eql (.t 61) (.d (.int .i64 3))) [0],om_ 63 62 [1],og_ 64 (.mv (.t 8)) 63 false [2],og_ 65 (.bin .eql (.t 64) (.d
 (.int .i64 3))) 63 false [3,2],oo_ 66 (.pick (.t 63) (.d (.bool true)) (.t 65)) [2,4]]) (.cond (.t 66) (.seq (.reg false [om_ 67 1 [],oo_ 68 (.bin .gtr (.t 67) (.d (.int .i64 600))) [0],om_ 4 68 [1,0,1]]) .ret) .skip))
 (.seq (.reg false [om_ 70 0 [],om_ 71 1 [],oo_ 72 (.bin .sub (.t 71) (.d (.int .i64 1))) [1],oo_ 73 (.call 16 [(.t 70),(.t 72)]) [0,2],om_ 69 73 [3],oo_ 74 (.ext (.t 69) 0) [4],oo_ 75 (.ext (.t 69) 1) [4],oo_ 10 (.new
 29 [.nilsl,(.bool false),.nilsl]) [],on_ (.store 3 (.t 10) (.t 74)) [7,5,3,0,1,2,3,4,5,7],om_ 11 75 [6,8,0,1,2,3,4,5,6,7,8]]) (.seq (.reg false [om_ 77 0 [],om_ 78 1 [],oo_ 79 (.bin .sub (.t 78) (.d (.int .i64 1)))
 [1],oo_ 80 (.call 15 [(.t 77),(.t 79)]) [0,2],om_ 76 80 [3],oo_ 81 (.ext (.t 76) 0) [4],oo_ 82 (.ext (.t 76) 1) [4],oo_ 12 (.new 29 [.nilsl,(.bool false),.nilsl]) [],on_ (.store 3 (.t 12) (.t 81))
 [7,5,3,0,1,2,3,4,5,7],om_ 13 82 [6,8,0,1,2,3,4,5,6,7,8]]) (.seq (.reg true [oo_ 84 (.call 21 [(.d (.int .i64 1))]) [],oo_ 85 (.load true 3 (.t 12)) [],oo_ 86 (.call 20 [(.t 84),(.t 85)]) [0,1,0],om_ 83 86 [2],oo_ 87
 (.ext (.t 83) 0) [3],oo_ 88 (.ext (.t 83) 1) [3],oo_ 14 (.new 29 [.nilsl,(.bool false),.nilsl]) [],on_ (.store 3 (.t 14) (.t 87)) [6,4,2,0,1,2,3,4,6],om_ 15 88 [5,7,0,1,2,3,4,5,6,7]]) (.seq (.reg true [om_ 89 6 [],oo_
 90 (.bin .eql (.t 89) (.d (.int .i64 0))) [0],om_ 91 90 [1],og_ 92 (.mv (.t 8)) 91 true [2],og_ 93 (.bin .eql (.t 92) (.d (.int .i64 0))) 91 true [3,2],oo_ 94 (.pick (.t 91) (.t 93) (.d (.bool false))) [2,4],om_ 95 94
 [5,2],og_ 96 (.mv (.t 11)) 95 true [6],og_ 97 (.bin .eql (.t 96) (.d (.int .i64 0))) 95 true [7,6],oo_ 98 (.pick (.t 95) (.t 97) (.d (.bool false))) [6,8],om_ 99 98 [9,6],og_ 100 (.mv (.t 13)) 99 true [10],og_ 101 (.bin
 .eql (.t 100) (.d (.int .i64 0))) 99 true [11,10],oo_ 102 (.pick (.t 99) (.t 101) (.d (.bool false))) [10,12],om_ 103 102 [13,10],og_ 104 (.mv (.t 15)) 103 true [14],og_ 105 (.bin .eql (.t 104) (.d (.int .i64 0))) 103
 true [15,14],oo_ 106 (.pick (.t 103) (.t 105) (.d (.bool false))) [14,16],om_ 107 106 [17,14],og_ 108 (.load true 3 (.t 10)) 107 true [18],og_ 109 (.load true 3 (.t 14)) 107 true [18],og_ 110 (.call 23 [(.t 108),(.t
 109)]) 107 true [19,20,18,18],og_ 111 (.load true 3 (.t 7)) 107 true [18],og_ 112 (.call 22 [(.t 110),(.t 111)]) 107 true [21,22,21,18],og_ 113 (.bin .eql (.t 112) (.d (.int .i64 0))) 107 true [23,18],oo_ 114 (.pick (.t
 107) (.t 113) (.d (.bool false))) [18,24],om_ 4 114 [25,23,0,1,2,3,4,5,6,7,8,9,10,11,12,13,14,15,16,17,18,19,20,21,22,23,24,25]]) .ret))))) .skip)) (.seq (.reg true [om_ 115 6 [],oo_ 116 (.bin .eql (.t 115) (.d (.int
 .i64 0))) [0],om_ 117 116 [1],og_ 118 (.mv (.t 8)) 117 true [2],og_ 119 (.bin .eql (.t 118) (.d (.int .i64 0))) 117 true [3,2],oo_ 120 (.pick (.t 117) (.t 119) (.d (.bool false))) [2,4],om_ 121 120 [5,2],og_ 122 (.load
 true 3 (.t 5)) 121 true [6],og_ 123 (.mv (.t 0)) 121 true [6],og_ 124 (.mv (.t 1)) 121 true [6],og_ 125 (.call 25 [(.t 123),(.t 124)]) 121 true [8,9,6,6],og_ 126 (.call 24 [(.t 122),(.t 125)]) 121 true [7,10,10,6],oo_
 127 (.pick (.t 121) (.t 126) (.d (.bool false))) [6,11],om_ 128 127 [12,11],og_ 129 (.load true 3 (.t 7)) 128 true [13],og_ 130 (.mv (.t 0)) 128 true [13],og_ 131 (.mv (.t 1)) 128 true [13],og_ 132 (.call 26 [(.t
 130),(.t 131)]) 128 true [15,16,13,13],og_ 133 (.call 24 [(.t 129),(.t 132)]) 128 true [14,17,17,13],oo_ 134 (.pick (.t 128) (.t 133) (.d (.bool false))) [13,18],om_ 4 134
 [19,18,0,1,2,3,4,5,6,7,8,9,10,11,12,13,14,15,16,17,18,19]]) .ret)))))))))
theorem o_6c : fnOf Tryz.prog o_6a = some (o_6b, [.t 4], 135, false) := by kernel_rfl

abbrev o_6d : FuncId := 14
def o_6e : C := (.seq (.reg false [oo_ 0 (.mv (.d (.bool false))) []]) (.seq (.reg false [oo_ 6 (.call 16 [(.d (.int .i64 1)),(.d (.int .i64 3))]) [],om_ 5 6 [0],oo_ 7 (.ext (.t 5) 0) [1],oo_ 8 (.ext (.t 5) 1) [1],oo_ 1 (.new 29
 [.nilsl,(.bool false),.nilsl]) [],on_ (.store 3 (.t 1) (.t 7)) [4,2,0,0,1,2,4],om_ 2 8 [3,5,0,1,2,3,4,5]]) (.seq (.reg false [oo_ 10 (.call 15 [(.d (.int .i64 1)),(.d (.int .i64 2))]) [],om_ 9 10 [0],oo_ 11 (.ext (.t 9)
 0) [1],oo_ 12 (.ext (.t 9) 1) [1],oo_ 3 (.new 29 [.nilsl,(.bool false),.nilsl]) [],on_ (.store 3 (.t 3) (.t 11)) [4,2,0,0,1,2,4],om_ 4 12 [3,5,0,1,2,3,4,5]]) (.seq (.reg false [om_ 13 2 [],oo_ 14 (.bin .eql (.t 13) (.d
 (.int .i64 0))) [0],om_ 15 14 [1],og_ 16 (.mv (.t 4)) 15 true [2],og_ 17 (.bin .eql (.t 16) (.d (.int .i64 0))) 15 true [3,2],oo_ 18 (.pick (.t 15) (.t 17) (.d (.bool false))) [2,4],om_ 19 18 [5,2],og_ 20 (.load true 3
 (.t 1)) 19 true [6],og_ 21 (.call 19 [(.t 20)]) 19 true [7,6,6],⟨some 22,.bin .eql (.t 21) (.d (.str ⟨#[55]⟩)),some (19,true),[8,6]⟩,oo_ 23 (.pick (.t 19) (.t 22) (.d (.bool false))) [6,9],om_ 24 23 [10,8],og_ 25 (.load
 true 3 (.t 3)) 24 true [11],og_ 26 (.call 19 [(.t 25)]) 24 true [12,11,11],⟨some 27,.bin .eql (.t 26) (.d (.str ⟨#[49,47,52]⟩)),some (24,true),[13,11]⟩,oo_ 28 (.pick (.t 24) (.t 27) (.d (.bool false))) [11,14],om_ 29 28
 [15,13],og_ 30 (.call 18 [(.d (.int .i64 1))]) 29 true [16,16],oo_ 31 (.pick (.t 29) (.t 30) (.d (.bool false))) [16,17],om_ 0 31 [18,17,0,1,2,3,4,5,6,7,8,9,10,11,12,13,14,15,16,17,18]]) .ret))))
theorem o_6f : fnOf Tryz.prog o_6d = some (o_6e, [.t 0], 32, false) := by kernel_rfl

abbrev o_6g : FuncId := 15
def o_6h : C := (.seq (.reg false [oo_ 4 (.new 29 [.nilsl,(.bool false),.nilsl]) [],oo_ 5 (.mv (.d (.int .i64 0))) []]) (.seq (.seq (.reg false [om_ 9 0 [],om_ 10 1 [],oo_ 11 (.bsl 3 1 1 [(.int .i64 0)] [(0,1,(.t 10))]) [1],oo_ 12
 (.call 63 [(.t 9),(.t 11)]) [0,2],om_ 6 12 [3,3,0,1,2,3]]) (.seq (.reg false [om_ 13 6 [],oo_ 14 (.bin .neq (.t 13) (.d (.int .i64 0))) [0]]) (.cond (.t 14) (.seq (.reg false [oo_ 15 (.build [.nilsl,(.bool
 false),.nilsl] []) [],om_ 16 6 [],on_ (.store 3 (.t 4) (.t 15)) [0,0],om_ 5 16 [1,2,0,1,2]]) .ret) .skip))) (.seq (.reg false [om_ 18 0 [],om_ 19 0 [],oo_ 20 (.bin .add (.t 19) (.d (.int .i64 1))) [1],oo_ 21 (.call 36
 [(.t 18),(.t 20)]) [0,2],om_ 17 21 [3],oo_ 22 (.ext (.t 17) 0) [4],oo_ 23 (.ext (.t 17) 1) [4],oo_ 7 (.new 29 [.nilsl,(.bool false),.nilsl]) [],on_ (.store 3 (.t 7) (.t 22)) [7,5,3,0,1,2,3,4,5,7],om_ 8 23
 [6,8,0,1,2,3,4,5,6,7,8]]) (.seq (.reg false [oo_ 24 (.load true 3 (.t 7)) [],om_ 25 1 [],oo_ 26 (.call 64 [(.t 24),(.t 25)]) [0,1],oo_ 27 (.ext (.t 26) 0) [2],oo_ 28 (.ext (.t 26) 1) [2],on_ (.store 3 (.t 4) (.t 27))
 [3,2,0,1,2,3,4],om_ 5 28 [4,5,0,1,2,3,4,5]]) .ret))))
theorem o_6i : fnOf Tryz.prog o_6g = some (o_6h, [.cell 4 true 3, .t 5], 29, false) := by kernel_rfl

abbrev o_6j : FuncId := 16
def o_6k : C := (.seq (.reg false [oo_ 4 (.new 29 [.nilsl,(.bool false),.nilsl]) [],oo_ 5 (.mv (.d (.int .i64 0))) []]) (.seq (.seq (.reg false [om_ 11 0 [],om_ 12 1 [],oo_ 13 (.bsl 3 1 1 [(.int .i64 0)] [(0,1,(.t 12))]) [1],oo_ 14
 (.call 63 [(.t 11),(.t 13)]) [0,2],om_ 6 14 [3,3,0,1,2,3]]) (.seq (.reg false [om_ 15 6 [],oo_ 16 (.bin .neq (.t 15) (.d (.int .i64 0))) [0]]) (.cond (.t 16) (.seq (.reg false [oo_ 17 (.build [.nilsl,(.bool
 false),.nilsl] []) [],om_ 18 6 [],on_ (.store 3 (.t 4) (.t 17)) [0,0],om_ 5 18 [1,2,0,1,2]]) .ret) .skip))) (.seq (.reg false [om_ 20 0 [],oo_ 21 (.bin .add (.t 20) (.d (.int .i64 1))) [0],om_ 22 0 [],oo_ 23 (.call 36
 [(.t 21),(.t 22)]) [1,2],om_ 19 23 [3],oo_ 24 (.ext (.t 19) 0) [4],oo_ 25 (.ext (.t 19) 1) [4],oo_ 7 (.new 29 [.nilsl,(.bool false),.nilsl]) [],on_ (.store 3 (.t 7) (.t 24)) [7,5,3,0,1,2,3,4,5,7],om_ 8 25
 [6,8,0,1,2,3,4,5,6,7,8]]) (.seq (.reg false [oo_ 27 (.load true 3 (.t 7)) [],om_ 28 1 [],oo_ 29 (.call 64 [(.t 27),(.t 28)]) [0,1],om_ 26 29 [2],oo_ 30 (.ext (.t 26) 0) [3],oo_ 31 (.ext (.t 26) 1) [3],oo_ 9 (.new 29
 [.nilsl,(.bool false),.nilsl]) [],on_ (.store 3 (.t 9) (.t 30)) [6,4,2,0,1,2,3,4,6],om_ 10 31 [5,7,0,1,2,3,4,5,6,7]]) (.seq (.seq (.reg false [om_ 32 10 [],oo_ 33 (.bin .neq (.t 32) (.d (.int .i64 0))) [0]]) (.cond (.t
 33) (.seq (.reg false [oo_ 34 (.build [.nilsl,(.bool false),.nilsl] []) [],om_ 35 10 [],on_ (.store 3 (.t 4) (.t 34)) [0,0],om_ 5 35 [1,2,0,1,2]]) .ret) .skip)) (.seq (.reg true [om_ 36 0 [],oo_ 37 (.call 21 [(.t 36)])
 [0],oo_ 38 (.load true 3 (.t 9)) [],oo_ 39 (.call 21 [(.d (.int .i64 1))]) [1],oo_ 40 (.call 55 [(.t 38),(.t 39)]) [2,3,3],oo_ 41 (.call 54 [(.t 37),(.t 40)]) [1,4,4],on_ (.store 3 (.t 4) (.t 41)) [5,5,0,1,2,3,4,5],oo_
 5 (.mv (.d (.int .i64 0))) [6,0,1,2,3,4,5,6]]) .ret))))))
theorem o_6l : fnOf Tryz.prog o_6j = some (o_6k, [.cell 4 true 3, .t 5], 42, false) := by kernel_rfl

abbrev o_6m : FuncId := 17
def o_6n : C := (.seq (.reg false [oo_ 4 (.mv (.d (.int .i64 0))) []]) (.seq (.seq (.reg false [om_ 5 0 [],oo_ 6 (.bin .lss (.t 5) (.d (.int .i64 1))) [0],om_ 7 6 [1],og_ 8 (.mv (.t 0)) 7 false [2],og_ 9 (.bin .gtr (.t 8) (.d (.int
 .i64 4096))) 7 false [3,2],oo_ 10 (.pick (.t 7) (.d (.bool true)) (.t 9)) [2,4]]) (.cond (.t 10) (.seq (.reg false [oo_ 4 (.mv (.d (.int .i64 10))) []]) .ret) .skip)) (.seq (.seq (.reg false [om_ 11 1 [],oo_ 12 (.bin
 .lss (.t 11) (.d (.int .i64 0))) [0],om_ 13 12 [1],og_ 14 (.mv (.t 1)) 13 false [2],og_ 15 (.bin .gtr (.t 14) (.d (.int .i64 1023))) 13 false [3,2],oo_ 16 (.pick (.t 13) (.d (.bool true)) (.t 15)) [2,4]]) (.cond (.t 16)
 (.seq (.reg false [oo_ 4 (.mv (.d (.int .i64 2))) []]) .ret) .skip)) (.seq (.reg false [oo_ 4 (.mv (.d (.int .i64 0))) []]) .ret))))
theorem o_6o : fnOf Tryz.prog o_6m = some (o_6n, [.t 4], 17, false) := by kernel_rfl

abbrev o_6p : FuncId := 18
def o_6q : C := (.seq (.reg false [oo_ 2 (.mv (.d (.bool false))) []]) (.seq (.reg false [om_ 3 0 [],oo_ 4 (.bin .geq (.t 3) (.d (.int .i64 1))) [0],om_ 5 4 [1],og_ 6 (.mv (.t 0)) 5 true [2],og_ 7 (.bin .leq (.t 6) (.d (.int .i64
 4096))) 5 true [3,2],oo_ 8 (.pick (.t 5) (.t 7) (.d (.bool false))) [2,4],om_ 2 8 [5,2,0,1,2,3,4,5]]) .ret))
theorem o_6r : fnOf Tryz.prog o_6p = some (o_6q, [.t 2], 9, false) := by kernel_rfl

abbrev o_6s : FuncId := 19
def o_6t : C := (.seq (.reg false [oo_ 1 (.box 29 (.t 0)) [],⟨some 2,.mv (.d (.str ⟨#[]⟩)),none,[]⟩]) (.seq (.seq (.reg false [oo_ 3 (.load true 3 (.t 1)) [],oo_ 4 (.call 65 [(.t 3)]) [0]]) (.cond (.t 4) (.seq (.reg false [oo_ 5 (.fa 0
 (.t 1)) [],oo_ 6 (.load true 2 (.t 5)) [0],oo_ 7 (.call 66 [(.t 6)]) [1],om_ 2 7 [2,2,0,1,2]]) .ret) .skip)) (.seq (.reg true [oo_ 8 (.fa 0 (.t 1)) [],oo_ 9 (.load true 2 (.t 8)) [0],oo_ 10 (.call 66 [(.t 9)]) [1],⟨some
 11,.bin .add (.t 10) (.d (.str ⟨#[47]⟩)),none,[2]⟩,oo_ 12 (.load true 3 (.t 1)) [],oo_ 13 (.call 67 [(.t 12)]) [4,2],oo_ 14 (.call 68 [(.t 13)]) [5,5],oo_ 15 (.bin .add (.t 11) (.t 14)) [3,6],om_ 2 15
 [7,6,0,1,2,3,4,5,6,7]]) .ret)))
theorem o_6u : fnOf Tryz.prog o_6s = some (o_6t, [.t 2], 16, false) := by kernel_rfl

abbrev o_6v : FuncId := 20
def o_6w : C := (.seq (.reg false [oo_ 2 (.box 29 (.t 0)) [],oo_ 3 (.box 29 (.t 1)) [],oo_ 4 (.new 29 [.nilsl,(.bool false),.nilsl]) [],oo_ 5 (.mv (.d (.int .i64 0))) []]) (.seq (.reg true [oo_ 6 (.fa 0 (.t 2)) [],oo_ 7 (.load true 2
 (.t 6)) [0],oo_ 8 (.load true 3 (.t 3)) [],oo_ 9 (.call 71 [(.t 8)]) [2],oo_ 10 (.call 70 [(.t 7),(.t 9)]) [1,3,3],oo_ 11 (.fa 0 (.t 3)) [],oo_ 12 (.load true 2 (.t 11)) [5],oo_ 13 (.load true 3 (.t 2)) [],oo_ 14 (.call
 71 [(.t 13)]) [7,4],oo_ 15 (.call 70 [(.t 12),(.t 14)]) [6,8,8],oo_ 16 (.call 69 [(.t 10),(.t 15)]) [4,9,9],oo_ 17 (.ext (.t 16) 0) [10],oo_ 18 (.ext (.t 16) 1) [10],on_ (.store 3 (.t 4) (.t 17))
 [11,10,0,1,2,3,4,5,6,7,8,9,10,11,12],om_ 5 18 [12,13,0,1,2,3,4,5,6,7,8,9,10,11,12,13]]) .ret))
theorem o_6x : fnOf Tryz.prog o_6v = some (o_6w, [.cell 4 true 3, .t 5], 19, false) := by kernel_rfl

abbrev o_6y : FuncId := 21
def o_6z : C := (.seq (.reg false [oo_ 2 (.new 29 [.nilsl,(.bool false),.nilsl]) []]) (.seq (.reg false [om_ 3 0 [],oo_ 4 (.call 72 [(.t 3)]) [0],oo_ 5 (.build [.nilsl,(.bool false),.nilsl] [(0,2,(.t 4))]) [1],on_ (.store 3 (.t 2) (.t
 5)) [2,1,0,1,2]]) .ret))
theorem o_70 : fnOf Tryz.prog o_6y = some (o_6z, [.cell 2 true 3], 6, false) := by kernel_rfl

abbrev o_71 : FuncId := 22
def o_72 : C := (.seq (.reg false [oo_ 2 (.box 29 (.t 0)) [],oo_ 3 (.box 29 (.t 1)) [],oo_ 4 (.mv (.d (.int .i64 0))) []]) (.seq (.reg true [oo_ 5 (.fa 0 (.t 2)) [],oo_ 6 (.load true 2 (.t 5)) [0],oo_ 7 (.load true 3 (.t 3)) [],oo_ 8
 (.call 71 [(.t 7)]) [2],oo_ 9 (.call 70 [(.t 6),(.t 8)]) [1,3,3],oo_ 10 (.fa 0 (.t 3)) [],oo_ 11 (.load true 2 (.t 10)) [5],oo_ 12 (.load true 3 (.t 2)) [],oo_ 13 (.call 71 [(.t 12)]) [7,4],oo_ 14 (.call 70 [(.t 11),(.t
 13)]) [6,8,8],oo_ 15 (.call 73 [(.t 9),(.t 14)]) [4,9,9],om_ 4 15 [10,10,0,1,2,3,4,5,6,7,8,9,10]]) .ret))
theorem o_73 : fnOf Tryz.prog o_71 = some (o_72, [.t 4], 16, false) := by kernel_rfl

abbrev o_74 : FuncId := 23
def o_75 : C := (.seq (.reg false [oo_ 2 (.box 29 (.t 0)) [],oo_ 3 (.box 29 (.t 1)) [],oo_ 4 (.new 29 [.nilsl,(.bool false),.nilsl]) []]) (.seq (.reg true [oo_ 5 (.fa 0 (.t 2)) [],oo_ 6 (.load true 2 (.t 5)) [0],oo_ 7 (.load true 3 (.t
 3)) [],oo_ 8 (.call 71 [(.t 7)]) [2],oo_ 9 (.call 70 [(.t 6),(.t 8)]) [1,3,3],oo_ 10 (.fa 0 (.t 3)) [],oo_ 11 (.load true 2 (.t 10)) [5],oo_ 12 (.load true 3 (.t 2)) [],oo_ 13 (.call 71 [(.t 12)]) [7,4],oo_ 14 (.call 70
 [(.t 11),(.t 13)]) [6,8,8],oo_ 15 (.call 75 [(.t 9),(.t 14)]) [4,9,9],oo_ 16 (.load true 3 (.t 2)) [],oo_ 17 (.call 67 [(.t 16)]) [11,10],oo_ 18 (.load true 3 (.t 3)) [],oo_ 19 (.call 67 [(.t 18)]) [13,12],oo_ 20 (.call
 76 [(.t 17),(.t 19)]) [12,14,14],oo_ 21 (.call 74 [(.t 15),(.t 20)]) [10,15,15],on_ (.store 3 (.t 4) (.t 21)) [16,16,0,1,2,3,4,5,6,7,8,9,10,11,12,13,14,15,16]]) .ret))
theorem o_76 : fnOf Tryz.prog o_74 = some (o_75, [.cell 4 true 3], 22, false) := by kernel_rfl

abbrev o_77 : FuncId := 24
def o_78 : C := (.seq (.reg false [oo_ 2 (.box 29 (.t 0)) [],oo_ 3 (.box 46 (.t 1)) [],oo_ 4 (.mv (.d (.bool false))) []]) (.seq (.reg true [oo_ 5 (.load true 3 (.t 2)) [],oo_ 6 (.call 19 [(.t 5)]) [0],oo_ 7 (.load true 3 (.t 3))
 [],oo_ 8 (.call 77 [(.t 7)]) [2,1],oo_ 9 (.bin .eql (.t 6) (.t 8)) [1,3],om_ 4 9 [4,3,0,1,2,3,4]]) .ret))
theorem o_79 : fnOf Tryz.prog o_77 = some (o_78, [.t 4], 10, false) := by kernel_rfl

abbrev o_7a : FuncId := 25
def o_7b : C := (.seq (.reg false [oo_ 4 (.new 46 [.nilsl,.nilsl,.nilsl]) []]) (.seq (.reg false [om_ 5 0 [],oo_ 6 (.call 80 [(.t 5)]) [0],om_ 7 1 [],oo_ 8 (.call 79 [(.t 6),(.t 7)]) [1,2,1],om_ 9 0 [],oo_ 10 (.bin .add (.t 9) (.d
 (.int .i64 1))) [4],oo_ 11 (.call 80 [(.t 10)]) [5,3],om_ 12 1 [],oo_ 13 (.call 79 [(.t 11),(.t 12)]) [6,7,6],oo_ 14 (.call 78 [(.t 8),(.t 13)]) [3,8,8],on_ (.store 3 (.t 4) (.t 14)) [9,9,0,1,2,3,4,5,6,7,8,9]]) .ret))
theorem o_7c : fnOf Tryz.prog o_7a = some (o_7b, [.cell 4 true 3], 15, false) := by kernel_rfl

abbrev o_7d : FuncId := 26
def o_7e : C := (.seq (.reg false [oo_ 4 (.new 46 [.nilsl,.nilsl,.nilsl]) []]) (.seq (.seq (.reg false [om_ 7 1 [],oo_ 8 (.bin .eql (.t 7) (.d (.int .i64 0))) [0]]) (.cond (.t 8) (.seq (.reg false [oo_ 9 (.call 81 [(.d (.int .i64 0))])
 [],on_ (.store 3 (.t 4) (.t 9)) [0,0,0]]) .ret) .skip)) (.seq (.reg false [oo_ 5 (.mv (.d .nilsl)) []]) (.seq (.seq (.reg false [oo_ 6 (.mv (.d (.int .i64 0))) []]) (.block 0 (.loop (.seq (.seq (.reg false [om_ 10 6
 [],om_ 11 1 [],oo_ 12 (.bin .lss (.t 10) (.t 11)) [0,1]]) (.cond (.t 12) .skip (.exit 0))) (.seq (.block 1 (.reg false [om_ 15 5 [],om_ 16 0 [],oo_ 17 (.call 80 [(.t 16)]) [1],om_ 18 1 [],oo_ 19 (.bin .sub (.t 18) (.d
 (.int .i64 1))) [3],om_ 20 6 [],oo_ 21 (.bin .sub (.t 19) (.t 20)) [4,5],oo_ 22 (.call 79 [(.t 17),(.t 21)]) [2,6,2],om_ 23 0 [],oo_ 24 (.bin .add (.t 23) (.d (.int .i64 1))) [8],oo_ 25 (.call 80 [(.t 24)]) [9,7],om_ 26
 6 [],oo_ 27 (.call 79 [(.t 25),(.t 26)]) [10,11,10],oo_ 28 (.call 83 [(.t 22),(.t 27)]) [7,12,12],oo_ 29 (.call 82 [(.t 15),(.t 28)]) [0,13,13],om_ 5 29 [14,14,0,1,2,3,4,5,6,7,8,9,10,11,12,13,14]])) (.reg false [om_ 13
 6 [],oo_ 14 (.bin .add (.t 13) (.d (.int .i64 1))) [0],om_ 6 14 [1,0,1]])))))) (.seq (.reg false [om_ 30 5 [],om_ 31 0 [],oo_ 32 (.call 80 [(.t 31)]) [1],om_ 33 1 [],oo_ 34 (.bin .sub (.t 33) (.d (.int .i64 1))) [3],oo_
 35 (.call 79 [(.t 32),(.t 34)]) [2,4,2],oo_ 36 (.call 78 [(.t 30),(.t 35)]) [0,5,5],on_ (.store 3 (.t 4) (.t 36)) [6,6,0,1,2,3,4,5,6]]) .ret)))))
theorem o_7f : fnOf Tryz.prog o_7d = some (o_7e, [.cell 4 true 3], 37, false) := by kernel_rfl

abbrev o_7g : FuncId := 36
def o_7h : C := (.seq (.reg false [oo_ 4 (.new 29 [.nilsl,(.bool false),.nilsl]) [],oo_ 5 (.mv (.d (.int .i64 0))) []]) (.seq (.reg false [om_ 6 0 [],oo_ 7 (.call 72 [(.t 6)]) [0],om_ 8 1 [],oo_ 9 (.call 72 [(.t 8)]) [2,1],oo_ 10
 (.call 69 [(.t 7),(.t 9)]) [1,3,3],oo_ 11 (.ext (.t 10) 0) [4],oo_ 12 (.ext (.t 10) 1) [4],on_ (.store 3 (.t 4) (.t 11)) [5,4,0,1,2,3,4,5,6],om_ 5 12 [6,7,0,1,2,3,4,5,6,7]]) .ret))
theorem o_7i : fnOf Tryz.prog o_7g = some (o_7h, [.cell 4 true 3, .t 5], 13, false) := by kernel_rfl

abbrev o_7j : FuncId := 54
def o_7k : C := (.seq (.reg false [oo_ 2 (.box 29 (.t 0)) [],oo_ 3 (.box 29 (.t 1)) [],oo_ 4 (.new 29 [.nilsl,(.bool false),.nilsl]) []]) (.seq (.reg true [oo_ 5 (.fa 0 (.t 2)) [],oo_ 6 (.load true 2 (.t 5)) [0],oo_ 7 (.fa 0 (.t 3))
 [],oo_ 8 (.load true 2 (.t 7)) [2],oo_ 9 (.call 70 [(.t 6),(.t 8)]) [1,3],oo_ 10 (.load true 3 (.t 2)) [],oo_ 11 (.call 67 [(.t 10)]) [5,4],oo_ 12 (.load true 3 (.t 3)) [],oo_ 13 (.call 67 [(.t 12)]) [7,6],oo_ 14 (.call
 76 [(.t 11),(.t 13)]) [6,8,8],oo_ 15 (.call 74 [(.t 9),(.t 14)]) [4,9,9],on_ (.store 3 (.t 4) (.t 15)) [10,10,0,1,2,3,4,5,6,7,8,9,10]]) .ret))
theorem o_7l : fnOf Tryz.prog o_7j = some (o_7k, [.cell 4 true 3], 16, false) := by kernel_rfl

abbrev o_7m : FuncId := 55
def o_7n : C := (.seq (.reg false [oo_ 2 (.box 29 (.t 0)) [],oo_ 3 (.box 29 (.t 1)) [],oo_ 4 (.new 29 [.nilsl,(.bool false),.nilsl]) []]) (.seq (.reg true [oo_ 5 (.load true 3 (.t 2)) [],oo_ 6 (.fa 0 (.t 3)) [],oo_ 7 (.load true 2 (.t
 6)) [1],oo_ 8 (.call 121 [(.t 7)]) [2],oo_ 9 (.fa 2 (.t 3)) [],oo_ 10 (.load true 1 (.t 9)) [4],oo_ 11 (.build [.nilsl,(.bool false),.nilsl] [(0,2,(.t 8)),(2,1,(.t 10))]) [3,5],oo_ 12 (.call 23 [(.t 5),(.t 11)])
 [0,6,3],on_ (.store 3 (.t 4) (.t 12)) [7,7,0,1,2,3,4,5,6,7]]) .ret))
theorem o_7o : fnOf Tryz.prog o_7m = some (o_7n, [.cell 4 true 3], 13, false) := by kernel_rfl

abbrev o_7p : FuncId := 63
def o_7q : C := (.seq (.reg false [oo_ 4 (.mv (.d (.int .i64 0))) []]) (.seq (.seq (.reg false [om_ 7 0 [],oo_ 8 (.call 18 [(.t 7)]) [0],oo_ 9 (.un .not (.t 8)) [1]]) (.cond (.t 9) (.seq (.reg false [oo_ 4 (.mv (.d (.int .i64 10)))
 []]) .ret) .skip)) (.seq (.seq (.reg false [om_ 10 1 [],oo_ 11 (.len (.t 10)) [0],oo_ 12 (.mv (.d (.int .i64 0))) []]) (.block 0 (.loop (.seq (.reg false [oo_ 13 (.bin .lss (.t 12) (.t 11)) []]) (.seq (.cond (.t 13)
 .skip (.exit 0)) (.seq (.block 1 (.seq (.reg false [oo_ 14 (.ix 1 (.t 10) (.t 12)) [],oo_ 15 (.load false 1 (.t 14)) [0],om_ 6 15 [1,0,1]]) (.seq (.reg false [om_ 16 6 [],oo_ 17 (.bin .lss (.t 16) (.d (.int .i64 0)))
 [0],om_ 18 17 [1],og_ 19 (.mv (.t 6)) 18 false [2],og_ 20 (.bin .gtr (.t 19) (.d (.int .i64 1023))) 18 false [3,2],oo_ 21 (.pick (.t 18) (.d (.bool true)) (.t 20)) [2,4]]) (.cond (.t 21) (.seq (.reg false [oo_ 4 (.mv
 (.d (.int .i64 2))) []]) .ret) .skip)))) (.reg false [oo_ 22 (.bin .add (.t 12) (.d (.int .i64 1))) [],om_ 12 22 [0]]))))))) (.seq (.reg false [oo_ 4 (.mv (.d (.int .i64 0))) []]) .ret))))
theorem o_7r : fnOf Tryz.prog o_7p = some (o_7q, [.t 4], 23, false) := by kernel_rfl

abbrev o_7s : FuncId := 64
def o_7t : C := (.seq (.reg false [oo_ 2 (.box 29 (.t 0)) [],oo_ 4 (.new 29 [.nilsl,(.bool false),.nilsl]) [],oo_ 5 (.mv (.d (.int .i64 0))) []]) (.seq (.reg false [oo_ 10 (.fa 0 (.t 2)) [],oo_ 11 (.load true 2 (.t 10)) [0],oo_ 12
 (.call 134 [(.t 11)]) [1],om_ 13 1 [],oo_ 14 (.call 133 [(.t 12),(.t 13)]) [2,3,2],om_ 9 14 [4],oo_ 15 (.ext (.t 9) 0) [5],oo_ 16 (.ext (.t 9) 1) [5],oo_ 6 (.new 25 [.nilsl]) [],on_ (.store 1 (.t 6) (.t 15))
 [8,6,4,0,1,2,3,4,5,6,8],om_ 7 16 [7,9,0,1,2,3,4,5,6,7,8,9]]) (.seq (.seq (.reg false [om_ 17 7 [],oo_ 18 (.bin .neq (.t 17) (.d (.int .i64 0))) [0]]) (.cond (.t 18) (.seq (.reg false [oo_ 19 (.build [.nilsl,(.bool
 false),.nilsl] []) [],om_ 20 7 [],on_ (.store 3 (.t 4) (.t 19)) [0,0],om_ 5 20 [1,2,0,1,2]]) .ret) .skip)) (.seq (.reg false [oo_ 22 (.load true 3 (.t 2)) [],oo_ 23 (.call 67 [(.t 22)]) [0],om_ 24 1 [],oo_ 25 (.call 133
 [(.t 23),(.t 24)]) [1,2,1],om_ 21 25 [3],oo_ 26 (.ext (.t 21) 0) [4],oo_ 27 (.ext (.t 21) 1) [4],oo_ 8 (.new 25 [.nilsl]) [],on_ (.store 1 (.t 8) (.t 26)) [7,5,3,0,1,2,3,4,5,7],om_ 7 27 [6,8,0,1,2,3,4,5,6,7,8]]) (.seq
 (.seq (.reg false [om_ 28 7 [],oo_ 29 (.bin .neq (.t 28) (.d (.int .i64 0))) [0]]) (.cond (.t 29) (.seq (.reg false [oo_ 30 (.build [.nilsl,(.bool false),.nilsl] []) [],om_ 31 7 [],on_ (.store 3 (.t 4) (.t 30))
 [0,0],om_ 5 31 [1,2,0,1,2]]) .ret) .skip)) (.seq (.reg true [oo_ 32 (.fa 0 (.t 2)) [],oo_ 33 (.load true 2 (.t 32)) [0],oo_ 34 (.call 136 [(.t 33)]) [1],om_ 35 34 [2,2],og_ 36 (.mv (.t 1)) 35 true [3],og_ 37 (.bin .and
 (.t 36) (.d (.int .i64 1))) 35 true [4,3],og_ 38 (.bin .eql (.t 37) (.d (.int .i64 1))) 35 true [5,3],oo_ 39 (.pick (.t 35) (.t 38) (.d (.bool false))) [3,6],oo_ 40 (.load true 1 (.t 6)) [],oo_ 41 (.call 135 [(.t
 39),(.t 40)]) [7,8,3],oo_ 42 (.load true 1 (.t 8)) [],oo_ 43 (.call 74 [(.t 41),(.t 42)]) [9,10,9],on_ (.store 3 (.t 4) (.t 43)) [11,11,0,1,2,3,4,5,6,7,8,9,10,11],oo_ 5 (.mv (.d (.int .i64 0)))
 [12,0,1,2,3,4,5,6,7,8,9,10,11,12]]) .ret))))))
theorem o_7u : fnOf Tryz.prog o_7s = some (o_7t, [.cell 4 true 3, .t 5], 44, false) := by kernel_rfl

abbrev o_7v : FuncId := 65
def o_7w : C := (.seq (.reg false [oo_ 1 (.box 29 (.t 0)) [],oo_ 2 (.mv (.d (.bool false))) []]) (.seq (.reg false [oo_ 3 (.fa 2 (.t 1)) [],oo_ 4 (.load true 1 (.t 3)) [0],oo_ 5 (.call 137 [(.t 4)]) [1],om_ 2 5 [2,2,0,1,2]]) .ret))
theorem o_7x : fnOf Tryz.prog o_7v = some (o_7w, [.t 2], 6, false) := by kernel_rfl

abbrev o_7y : FuncId := 66
def o_7z : C := (.seq (.reg false [oo_ 1 (.box 27 (.t 0)) [],⟨some 2,.mv (.d (.str ⟨#[]⟩)),none,[]⟩]) (.seq (.seq (.reg false [oo_ 3 (.fa 1 (.t 1)) [],oo_ 4 (.load false 1 (.t 3)) [0]]) (.cond (.t 4) (.seq (.reg false [oo_ 5 (.fa 0 (.t
 1)) [],oo_ 6 (.load true 1 (.t 5)) [0],oo_ 7 (.call 68 [(.t 6)]) [1],⟨some 8,.bin .add (.d (.str ⟨#[45]⟩)) (.t 7),none,[2]⟩,om_ 2 8 [3,2,0,1,2,3]]) .ret) .skip)) (.seq (.reg false [oo_ 9 (.fa 0 (.t 1)) [],oo_ 10 (.load
 true 1 (.t 9)) [0],oo_ 11 (.call 68 [(.t 10)]) [1],om_ 2 11 [2,2,0,1,2]]) .ret)))
theorem o_80 : fnOf Tryz.prog o_7y = some (o_7z, [.t 2], 12, false) := by kernel_rfl

abbrev o_81 : FuncId := 67
def o_82 : C := (.seq (.reg false [oo_ 1 (.box 29 (.t 0)) [],oo_ 2 (.new 25 [.nilsl]) []]) (.seq (.reg true [oo_ 3 (.fa 2 (.t 1)) [],oo_ 4 (.load true 1 (.t 3)) [0],oo_ 5 (.bsl 194 1 1 [(.int .u64 0)] [(0,1,(.d (.int .u64 1)))]) [],oo_
 6 (.call 139 [(.t 5)]) [2],oo_ 7 (.call 138 [(.t 4),(.t 6)]) [1,3,3],on_ (.store 1 (.t 2) (.t 7)) [4,4,0,1,2,3,4]]) .ret))
theorem o_83 : fnOf Tryz.prog o_81 = some (o_82, [.cell 2 true 1], 8, false) := by kernel_rfl

abbrev o_84 : FuncId := 68
def o_85 : C := (.seq (.reg false [oo_ 1 (.box 25 (.t 0)) [],⟨some 2,.mv (.d (.str ⟨#[]⟩)),none,[]⟩]) (.seq (.seq (.reg false [oo_ 8 (.load true 1 (.t 1)) [],oo_ 9 (.call 137 [(.t 8)]) [0]]) (.cond (.t 9) (.seq (.reg false [⟨some 2,.mv
 (.d (.str ⟨#[48]⟩)),none,[]⟩]) .ret) .skip)) (.seq (.reg false [⟨some 3,.mv (.d (.str ⟨#[]⟩)),none,[]⟩]) (.seq (.seq (.reg false [oo_ 10 (.fa 0 (.t 1)) [],oo_ 11 (.load false 1 (.t 10)) [0],om_ 4 11 [1,0,1]]) (.block 0
 (.loop (.seq (.seq (.reg false [om_ 12 4 [],oo_ 13 (.len (.t 12)) [0],oo_ 14 (.bin .gtr (.t 13) (.d (.int .i64 0))) [1]]) (.cond (.t 14) .skip (.exit 0))) (.block 1 (.seq (.reg false [om_ 16 4 [],oo_ 17 (.call 140 [(.t
 16),(.d (.int .u64 1000000000000000000))]) [0],om_ 15 17 [1],oo_ 18 (.ext (.t 15) 0) [2],oo_ 19 (.ext (.t 15) 1) [2],om_ 5 18 [3,1,0,1,2,3],om_ 6 19 [4,5,0,1,2,3,4,5]]) (.seq (.reg false [om_ 20 5 [],oo_ 21 (.call 141
 [(.t 20)]) [0],oo_ 22 (.fld false 0 1 (.t 21)) [1],om_ 4 22 [2,1,0,1,2]]) (.seq (.reg false [om_ 23 6 [],oo_ 24 (.call 142 [(.t 23),(.d (.int .i64 10))]) [0],om_ 7 24 [1,1,0,1]]) (.seq (.seq (.reg false [om_ 25 4 [],oo_
 26 (.len (.t 25)) [0],oo_ 27 (.bin .gtr (.t 26) (.d (.int .i64 0))) [1]]) (.cond (.t 27) (.reg false [om_ 28 7 [],oo_ 29 (.lens (.t 28)) [0],oo_ 30 (.bin .sub (.d (.int .i64 18)) (.t 29)) [1],⟨some 31,.call 143 [(.d
 (.str ⟨#[48]⟩)),(.t 30)],none,[2]⟩,om_ 32 7 [],oo_ 33 (.bin .add (.t 31) (.t 32)) [3,4],om_ 7 33 [5,3,0,1,2,3,4,5]]) .skip)) (.reg false [om_ 34 7 [],om_ 35 3 [],oo_ 36 (.bin .add (.t 34) (.t 35)) [0,1],om_ 3 36
 [2,0,1,2]])))))))))) (.seq (.reg false [om_ 37 3 [],om_ 2 37 [0,0]]) .ret)))))
theorem o_86 : fnOf Tryz.prog o_84 = some (o_85, [.t 2], 38, false) := by kernel_rfl

abbrev o_87 : FuncId := 69
def o_88 : C := (.seq (.reg false [oo_ 2 (.box 27 (.t 0)) [],oo_ 3 (.box 27 (.t 1)) [],oo_ 4 (.new 29 [.nilsl,(.bool false),.nilsl]) [],oo_ 5 (.mv (.d (.int .i64 0))) []]) (.seq (.seq (.reg false [oo_ 6 (.load true 2 (.t 3)) [],oo_ 7
 (.call 134 [(.t 6)]) [0],oo_ 8 (.call 137 [(.t 7)]) [1,1]]) (.cond (.t 8) (.seq (.reg false [oo_ 9 (.build [.nilsl,(.bool false),.nilsl] []) [],on_ (.store 3 (.t 4) (.t 9)) [0,0],oo_ 5 (.mv (.d (.int .i64 7))) [1,0,1]])
 .ret) .skip)) (.seq (.reg true [oo_ 10 (.load true 2 (.t 2)) [],oo_ 11 (.call 136 [(.t 10)]) [0],oo_ 12 (.load true 2 (.t 3)) [],oo_ 13 (.call 136 [(.t 12)]) [2,1],oo_ 14 (.beq true (.t 11) (.t 13)) [1,3],oo_ 15 (.load
 true 2 (.t 2)) [],oo_ 16 (.call 134 [(.t 15)]) [5,3],oo_ 17 (.call 135 [(.t 14),(.t 16)]) [4,6,6],oo_ 18 (.load true 2 (.t 3)) [],oo_ 19 (.call 134 [(.t 18)]) [8,7],oo_ 20 (.call 74 [(.t 17),(.t 19)]) [7,9,9],on_
 (.store 3 (.t 4) (.t 20)) [10,10,0,1,2,3,4,5,6,7,8,9,10],oo_ 5 (.mv (.d (.int .i64 0))) [11,0,1,2,3,4,5,6,7,8,9,10,11]]) .ret)))
theorem o_89 : fnOf Tryz.prog o_87 = some (o_88, [.cell 4 true 3, .t 5], 21, false) := by kernel_rfl

abbrev o_8a : FuncId := 70
def o_8b : C := (.seq (.reg false [oo_ 2 (.box 27 (.t 0)) [],oo_ 3 (.box 27 (.t 1)) [],oo_ 4 (.new 27 [.nilsl,(.bool false)]) []]) (.seq (.reg true [oo_ 5 (.fa 1 (.t 2)) [],oo_ 6 (.load false 1 (.t 5)) [0],oo_ 7 (.fa 1 (.t 3)) [],oo_ 8
 (.load false 1 (.t 7)) [2],oo_ 9 (.beq true (.t 6) (.t 8)) [1,3],oo_ 10 (.fa 0 (.t 2)) [],oo_ 11 (.load true 1 (.t 10)) [5],oo_ 12 (.fa 0 (.t 3)) [],oo_ 13 (.load true 1 (.t 12)) [7],oo_ 14 (.call 76 [(.t 11),(.t 13)])
 [6,8],oo_ 15 (.call 135 [(.t 9),(.t 14)]) [4,9,9],on_ (.store 2 (.t 4) (.t 15)) [10,10,0,1,2,3,4,5,6,7,8,9,10]]) .ret))
theorem o_8c : fnOf Tryz.prog o_8a = some (o_8b, [.cell 4 true 2], 16, false) := by kernel_rfl

abbrev o_8d : FuncId := 71
def o_8e : C := (.seq (.reg false [oo_ 1 (.box 29 (.t 0)) [],oo_ 2 (.new 27 [.nilsl,(.bool false)]) []]) (.seq (.reg false [oo_ 3 (.load true 3 (.t 1)) [],oo_ 4 (.call 67 [(.t 3)]) [0],oo_ 5 (.call 135 [(.d (.bool false)),(.t 4)])
 [1,1],on_ (.store 2 (.t 2) (.t 5)) [2,2,0,1,2]]) .ret))
theorem o_8f : fnOf Tryz.prog o_8d = some (o_8e, [.cell 2 true 2], 6, false) := by kernel_rfl

abbrev o_8g : FuncId := 72
def o_8h : C := (.seq (.reg false [oo_ 2 (.new 27 [.nilsl,(.bool false)]) []]) (.seq (.seq (.reg false [om_ 3 0 [],oo_ 4 (.bin .lss (.t 3) (.d (.int .i64 0))) [0]]) (.cond (.t 4) (.seq (.reg false [om_ 5 0 [],oo_ 6 (.conv .u64 (.t 5))
 [0],oo_ 7 (.un .neg (.t 6)) [1],oo_ 8 (.bsl 194 1 1 [(.int .u64 0)] [(0,1,(.t 7))]) [2],oo_ 9 (.call 139 [(.t 8)]) [3],oo_ 10 (.call 135 [(.d (.bool true)),(.t 9)]) [4,4],on_ (.store 2 (.t 2) (.t 10))
 [5,5,0,1,2,3,4,5]]) .ret) .skip)) (.seq (.reg false [om_ 11 0 [],oo_ 12 (.conv .u64 (.t 11)) [0],oo_ 13 (.bsl 194 1 1 [(.int .u64 0)] [(0,1,(.t 12))]) [1],oo_ 14 (.call 139 [(.t 13)]) [2],oo_ 15 (.call 135 [(.d (.bool
 false)),(.t 14)]) [3,3],on_ (.store 2 (.t 2) (.t 15)) [4,4,0,1,2,3,4]]) .ret)))
theorem o_8i : fnOf Tryz.prog o_8g = some (o_8h, [.cell 2 true 2], 16, false) := by kernel_rfl

abbrev o_8j : FuncId := 73
def o_8k : C := (.seq (.reg false [oo_ 2 (.box 27 (.t 0)) [],oo_ 3 (.box 27 (.t 1)) [],oo_ 4 (.mv (.d (.int .i64 0))) []]) (.seq (.block 0 (.seq (.reg false [oo_ 6 (.fa 1 (.t 2)) [],oo_ 7 (.load false 1 (.t 6)) [0],om_ 8 7 [1],og_ 9
 (.fa 1 (.t 3)) 8 true [2],og_ 10 (.load false 1 (.t 9)) 8 true [3,2],oo_ 11 (.pick (.t 8) (.t 10) (.d (.bool false))) [2,4],om_ 5 11 [5,2]]) (.cond (.t 5) (.seq (.reg false [oo_ 12 (.fa 0 (.t 3)) [],oo_ 13 (.load true 1
 (.t 12)) [0],oo_ 14 (.fa 0 (.t 2)) [],oo_ 15 (.load true 1 (.t 14)) [2],oo_ 16 (.call 144 [(.t 13),(.t 15)]) [1,3],om_ 4 16 [4,4,0,1,2,3,4]]) .ret) (.seq (.reg false [oo_ 18 (.fa 1 (.t 2)) [],oo_ 19 (.load false 1 (.t
 18)) [0],om_ 17 19 [1]]) (.cond (.t 17) (.seq (.reg false [oo_ 4 (.mv (.d (.int .i64 (-1)))) []]) .ret) (.seq (.reg false [oo_ 21 (.fa 1 (.t 3)) [],oo_ 22 (.load false 1 (.t 21)) [0],om_ 20 22 [1]]) (.cond (.t 20) (.seq
 (.reg false [oo_ 4 (.mv (.d (.int .i64 1))) []]) .ret) .skip))))))) (.seq (.reg false [oo_ 23 (.fa 0 (.t 2)) [],oo_ 24 (.load true 1 (.t 23)) [0],oo_ 25 (.fa 0 (.t 3)) [],oo_ 26 (.load true 1 (.t 25)) [2],oo_ 27 (.call
 144 [(.t 24),(.t 26)]) [1,3],om_ 4 27 [4,4,0,1,2,3,4]]) .ret)))
theorem o_8l : fnOf Tryz.prog o_8j = some (o_8k, [.t 4], 28, false) := by kernel_rfl

abbrev o_8m : FuncId := 74
def o_8n : C := (.seq (.reg false [oo_ 2 (.box 27 (.t 0)) [],oo_ 3 (.box 25 (.t 1)) [],oo_ 4 (.new 29 [.nilsl,(.bool false),.nilsl]) []]) (.seq (.reg true [oo_ 14 (.load true 2 (.t 2)) [],oo_ 15 (.call 134 [(.t 14)]) [0],oo_ 16 (.load
 true 1 (.t 3)) [],oo_ 17 (.call 145 [(.t 15),(.t 16)]) [1,2,1],oo_ 5 (.new 25 [.nilsl]) [],on_ (.store 1 (.t 5) (.t 17)) [4,3,3,0,1,2,3,4]]) (.seq (.reg true [oo_ 19 (.load true 2 (.t 2)) [],oo_ 20 (.call 134 [(.t 19)])
 [0],oo_ 21 (.load true 1 (.t 5)) [],oo_ 22 (.call 146 [(.t 20),(.t 21)]) [1,2,1],om_ 18 22 [3],oo_ 23 (.ext (.t 18) 0) [4],oo_ 24 (.ext (.t 18) 1) [4],oo_ 25 (.ext (.t 18) 2) [4],oo_ 6 (.new 25 [.nilsl]) [],oo_ 7 (.new
 25 [.nilsl]) [],on_ (.store 1 (.t 6) (.t 23)) [8,5,3,0,1,2,3,4,5,8,9],on_ (.store 1 (.t 7) (.t 24)) [9,6,10,0,1,2,3,4,5,6,8,9,10],om_ 8 25 [7,11,0,1,2,3,4,5,6,7,8,9,10,11]]) (.seq (.reg false [oo_ 27 (.load true 1 (.t
 3)) [],oo_ 28 (.load true 1 (.t 5)) [],oo_ 29 (.call 146 [(.t 27),(.t 28)]) [0,1],om_ 26 29 [2],oo_ 30 (.ext (.t 26) 0) [3],oo_ 31 (.ext (.t 26) 1) [3],oo_ 32 (.ext (.t 26) 2) [3],oo_ 9 (.new 25 [.nilsl]) [],oo_ 10
 (.new 25 [.nilsl]) [],on_ (.store 1 (.t 9) (.t 30)) [7,4,2,0,1,2,3,4,7,8],on_ (.store 1 (.t 10) (.t 31)) [8,5,9,0,1,2,3,4,5,7,8,9],om_ 11 32 [6,10,0,1,2,3,4,5,6,7,8,9,10]]) (.seq (.reg true [oo_ 34 (.load true 1 (.t 9))
 [],oo_ 35 (.bsl 194 1 1 [(.int .u64 0)] [(0,1,(.d (.int .u64 1)))]) [],oo_ 36 (.call 139 [(.t 35)]) [1],oo_ 37 (.call 147 [(.t 34),(.t 36)]) [0,2,2],om_ 33 37 [3],oo_ 38 (.ext (.t 33) 0) [4],oo_ 39 (.ext (.t 33) 1)
 [4],oo_ 12 (.new 25 [.nilsl]) [],on_ (.store 1 (.t 12) (.t 38)) [7,5,3,0,1,2,3,4,5,7],om_ 13 39 [6,8,0,1,2,3,4,5,6,7,8]]) (.seq (.reg true [oo_ 40 (.load true 2 (.t 2)) [],oo_ 41 (.call 136 [(.t 40)]) [0],oo_ 42 (.load
 true 1 (.t 6)) [],oo_ 43 (.call 135 [(.t 41),(.t 42)]) [1,2,1],oo_ 44 (.load true 1 (.t 12)) [],oo_ 45 (.build [.nilsl,(.bool false),.nilsl] [(0,2,(.t 43)),(2,1,(.t 44))]) [3,4],on_ (.store 3 (.t 4) (.t 45))
 [5,3,0,1,2,3,4,5]]) .ret))))))
theorem o_8o : fnOf Tryz.prog o_8m = some (o_8n, [.cell 4 true 3], 46, false) := by kernel_rfl

abbrev o_8p : FuncId := 75
def o_8q : C := (.seq (.reg false [oo_ 2 (.box 27 (.t 0)) [],oo_ 3 (.box 27 (.t 1)) [],oo_ 4 (.new 27 [.nilsl,(.bool false)]) []]) (.seq (.seq (.reg false [oo_ 9 (.fa 1 (.t 2)) [],oo_ 10 (.load false 1 (.t 9)) [0],oo_ 11 (.fa 1 (.t 3))
 [],oo_ 12 (.load false 1 (.t 11)) [2],oo_ 13 (.beq false (.t 10) (.t 12)) [1,3]]) (.cond (.t 13) (.seq (.reg true [oo_ 14 (.fa 1 (.t 2)) [],oo_ 15 (.load false 1 (.t 14)) [0],oo_ 16 (.fa 0 (.t 2)) [],oo_ 17 (.load true
 1 (.t 16)) [2],oo_ 18 (.fa 0 (.t 3)) [],oo_ 19 (.load true 1 (.t 18)) [4],oo_ 20 (.call 138 [(.t 17),(.t 19)]) [3,5],oo_ 21 (.call 135 [(.t 15),(.t 20)]) [1,6,6],on_ (.store 2 (.t 4) (.t 21)) [7,7,0,1,2,3,4,5,6,7]])
 .ret) .skip)) (.seq (.seq (.reg false [oo_ 23 (.fa 0 (.t 2)) [],oo_ 24 (.load true 1 (.t 23)) [0],oo_ 25 (.fa 0 (.t 3)) [],oo_ 26 (.load true 1 (.t 25)) [2],oo_ 27 (.call 147 [(.t 24),(.t 26)]) [1,3],om_ 22 27 [4],oo_
 28 (.ext (.t 22) 0) [5],oo_ 29 (.ext (.t 22) 1) [5],oo_ 5 (.new 25 [.nilsl]) [],on_ (.store 1 (.t 5) (.t 28)) [8,6,4,0,1,2,3,4,5,6,8],om_ 6 29 [7,9,0,1,2,3,4,5,6,7,8,9]]) (.seq (.reg false [om_ 30 6 [],oo_ 31 (.bin .eql
 (.t 30) (.d (.int .i64 0))) [0]]) (.cond (.t 31) (.seq (.reg false [oo_ 32 (.fa 1 (.t 2)) [],oo_ 33 (.load false 1 (.t 32)) [0],oo_ 34 (.load true 1 (.t 5)) [],oo_ 35 (.call 135 [(.t 33),(.t 34)]) [1,2],on_ (.store 2
 (.t 4) (.t 35)) [3,3,0,1,2,3]]) .ret) .skip))) (.seq (.reg false [oo_ 37 (.fa 0 (.t 3)) [],oo_ 38 (.load true 1 (.t 37)) [0],oo_ 39 (.fa 0 (.t 2)) [],oo_ 40 (.load true 1 (.t 39)) [2],oo_ 41 (.call 147 [(.t 38),(.t
 40)]) [1,3],om_ 36 41 [4],oo_ 42 (.ext (.t 36) 0) [5],oo_ 43 (.ext (.t 36) 1) [5],oo_ 7 (.new 25 [.nilsl]) [],on_ (.store 1 (.t 7) (.t 42)) [8,6,4,0,1,2,3,4,5,6,8],om_ 8 43 [7,9,0,1,2,3,4,5,6,7,8,9]]) (.seq (.reg false
 [oo_ 44 (.fa 1 (.t 3)) [],oo_ 45 (.load false 1 (.t 44)) [0],oo_ 46 (.load true 1 (.t 7)) [],oo_ 47 (.call 135 [(.t 45),(.t 46)]) [1,2],on_ (.store 2 (.t 4) (.t 47)) [3,3,0,1,2,3]]) .ret)))))
theorem o_8r : fnOf Tryz.prog o_8p = some (o_8q, [.cell 4 true 2], 48, false) := by kernel_rfl

abbrev o_8s : FuncId := 76
def o_8t : C := (.seq (.reg false [oo_ 2 (.box 25 (.t 0)) [],oo_ 3 (.box 25 (.t 1)) [],oo_ 4 (.new 25 [.nilsl]) []]) (.seq (.reg false [oo_ 14 (.fa 0 (.t 2)) [],oo_ 15 (.load false 1 (.t 14)) [0],oo_ 16 (.len (.t 15)) [1],oo_ 17 (.fa 0
 (.t 3)) [],oo_ 18 (.load false 1 (.t 17)) [3],oo_ 19 (.len (.t 18)) [4],oo_ 20 (.bin .add (.t 16) (.t 19)) [2,5],oo_ 21 (.mksl 194 1 8 [(.int .u64 0)] (.t 20) (.t 20)) [6,6],om_ 5 21 [7,0,1,2,3,4,5,6,7]]) (.seq (.seq
 (.reg false [oo_ 22 (.fa 0 (.t 2)) [],oo_ 23 (.load false 1 (.t 22)) [0],oo_ 24 (.len (.t 23)) [1],oo_ 25 (.mv (.d (.int .i64 0))) []]) (.block 0 (.loop (.seq (.reg false [oo_ 26 (.bin .lss (.t 25) (.t 24)) []]) (.seq
 (.cond (.t 26) .skip (.exit 0)) (.seq (.block 1 (.seq (.reg false [om_ 27 25 [],oo_ 28 (.ix 1 (.t 23) (.t 25)) [],oo_ 29 (.load false 1 (.t 28)) [1],om_ 6 27 [0,0,1,2],om_ 7 29 [2,3,0,1,2,3]]) (.seq (.reg false [oo_ 8
 (.mv (.d (.int .u64 0))) []]) (.seq (.seq (.reg false [oo_ 30 (.fa 0 (.t 3)) [],oo_ 31 (.load false 1 (.t 30)) [0],oo_ 32 (.len (.t 31)) [1],oo_ 33 (.mv (.d (.int .i64 0))) []]) (.block 2 (.loop (.seq (.reg false [oo_
 34 (.bin .lss (.t 33) (.t 32)) []]) (.seq (.cond (.t 34) .skip (.exit 2)) (.seq (.block 3 (.seq (.reg false [om_ 35 33 [],oo_ 36 (.ix 1 (.t 31) (.t 33)) [],oo_ 37 (.load false 1 (.t 36)) [1],om_ 9 35 [0,0,1,2],om_ 10 37
 [2,3,0,1,2,3]]) (.seq (.reg false [om_ 39 7 [],om_ 40 10 [],oo_ 41 (.call 148 [(.t 39),(.t 40)]) [0,1],om_ 38 41 [2],oo_ 42 (.ext (.t 38) 0) [3],oo_ 43 (.ext (.t 38) 1) [3],om_ 11 42 [4,2,0,1,2,3,4],om_ 12 43
 [5,6,0,1,2,3,4,5,6]]) (.seq (.reg false [oo_ 13 (.mv (.d (.int .u64 0))) []]) (.seq (.reg false [om_ 45 12 [],om_ 46 5 [],om_ 47 6 [],om_ 48 9 [],oo_ 49 (.bin .add (.t 47) (.t 48)) [2,3],oo_ 50 (.ix 1 (.t 46) (.t 49))
 [1,4],oo_ 51 (.load false 1 (.t 50)) [5],oo_ 52 (.call 149 [(.t 45),(.t 51),(.d (.int .u64 0))]) [0,6],om_ 44 52 [7],oo_ 53 (.ext (.t 44) 0) [8],oo_ 54 (.ext (.t 44) 1) [8],om_ 12 53 [9,7,0,1,2,3,4,5,6,7,8,9],om_ 13 54
 [10,11,0,1,2,3,4,5,6,7,8,9,10,11]]) (.seq (.reg false [om_ 55 11 [],om_ 56 13 [],oo_ 57 (.bin .add (.t 55) (.t 56)) [0,1],om_ 11 57 [2,0,1,2]]) (.seq (.reg false [om_ 59 12 [],om_ 60 8 [],oo_ 61 (.call 149 [(.t 59),(.t
 60),(.d (.int .u64 0))]) [0,1],om_ 58 61 [2],oo_ 62 (.ext (.t 58) 0) [3],oo_ 63 (.ext (.t 58) 1) [3],om_ 12 62 [4,2,0,1,2,3,4],om_ 13 63 [5,6,0,1,2,3,4,5,6]]) (.reg false [om_ 64 5 [],om_ 65 6 [],om_ 66 9 [],oo_ 67
 (.bin .add (.t 65) (.t 66)) [1,2],om_ 68 12 [],om_ 69 11 [],om_ 70 13 [],oo_ 71 (.bin .add (.t 69) (.t 70)) [5,6],oo_ 72 (.ix 1 (.t 64) (.t 67)) [0,3,0,1,2,3,4],on_ (.store 1 (.t 72) (.t 68)) [8,4,0,1,2,3,4],om_ 8 71
 [7,9,0,1,2,3,4,5,6,7,8,9]])))))))) (.reg false [oo_ 73 (.bin .add (.t 33) (.d (.int .i64 1))) [],om_ 33 73 [0]]))))))) (.reg false [om_ 74 5 [],om_ 75 6 [],oo_ 76 (.fa 0 (.t 3)) [],oo_ 77 (.load false 1 (.t 76)) [2],oo_
 78 (.len (.t 77)) [3],oo_ 79 (.bin .add (.t 75) (.t 78)) [1,4],om_ 80 8 [],oo_ 81 (.ix 1 (.t 74) (.t 79)) [0,5,0,1,2,3,4,5,6],on_ (.store 1 (.t 81) (.t 80)) [7,6,0,1,2,3,4,5,6]]))))) (.reg false [oo_ 82 (.bin .add (.t
 25) (.d (.int .i64 1))) [],om_ 25 82 [0]]))))))) (.seq (.reg false [om_ 83 5 [],oo_ 84 (.call 141 [(.t 83)]) [0],on_ (.store 1 (.t 4) (.t 84)) [1,1,0,1]]) .ret))))
theorem o_8u : fnOf Tryz.prog o_8s = some (o_8t, [.cell 4 true 1], 85, false) := by kernel_rfl

abbrev o_8v : FuncId := 77
def o_8w : C := (.seq (.reg false [oo_ 1 (.box 46 (.t 0)) [],⟨some 2,.mv (.d (.str ⟨#[]⟩)),none,[]⟩]) (.seq (.reg false [oo_ 10 (.fa 0 (.t 1)) [],oo_ 11 (.load true 2 (.t 10)) [0],oo_ 12 (.call 150 [(.t 11)]) [1],om_ 3 12 [2,2,0,1,2]])
 (.seq (.reg false [om_ 13 3 [],oo_ 14 (.fa 2 (.t 1)) [],oo_ 15 (.load false 1 (.t 14)) [1],oo_ 16 (.call 151 [(.t 13),(.t 15)]) [0,2],om_ 4 16 [3,3,0,1,2,3]]) (.seq (.reg false [om_ 18 3 [],om_ 19 4 [],oo_ 20 (.call 152
 [(.t 18),(.t 19)]) [0,1],om_ 17 20 [2],oo_ 21 (.ext (.t 17) 0) [3],oo_ 22 (.ext (.t 17) 1) [3],om_ 5 21 [4,2,0,1,2,3,4],om_ 6 22 [5,6,0,1,2,3,4,5,6]]) (.seq (.reg false [oo_ 24 (.fa 2 (.t 1)) [],oo_ 25 (.load false 1
 (.t 24)) [0],om_ 26 4 [],oo_ 27 (.call 152 [(.t 25),(.t 26)]) [1,2],om_ 23 27 [3],oo_ 28 (.ext (.t 23) 0) [4],oo_ 29 (.ext (.t 23) 1) [4],om_ 7 28 [5,3,0,1,2,3,4,5],om_ 8 29 [6,7,0,1,2,3,4,5,6,7]]) (.seq (.reg false
 [om_ 30 5 [],oo_ 31 (.call 153 [(.t 30)]) [0],om_ 9 31 [1,1,0,1]]) (.seq (.seq (.reg false [oo_ 32 (.fa 0 (.t 1)) [],oo_ 33 (.load true 2 (.t 32)) [0],oo_ 34 (.call 154 [(.t 33)]) [1]]) (.cond (.t 34) (.reg false [om_
 35 9 [],⟨some 36,.bin .add (.d (.str ⟨#[45]⟩)) (.t 35),none,[0]⟩,om_ 9 36 [1,0,1]]) .skip)) (.seq (.seq (.reg false [om_ 37 7 [],oo_ 38 (.call 80 [(.d (.int .i64 1))]) [],oo_ 39 (.call 155 [(.t 37),(.t 38)]) [0,1,1],oo_
 40 (.bin .neq (.t 39) (.d (.int .i64 0))) [2]]) (.cond (.t 40) (.reg false [om_ 41 9 [],⟨some 42,.bin .add (.t 41) (.d (.str ⟨#[47]⟩)),none,[0]⟩,om_ 43 7 [],oo_ 44 (.call 153 [(.t 43)]) [2],oo_ 45 (.bin .add (.t 42) (.t
 44)) [1,3],om_ 9 45 [4,3,0,1,2,3,4]]) .skip)) (.seq (.reg false [om_ 46 9 [],om_ 2 46 [0,0]]) .ret)))))))))
theorem o_8x : fnOf Tryz.prog o_8v = some (o_8w, [.t 2], 47, false) := by kernel_rfl

abbrev o_8y : FuncId := 78
def o_8z : C := (.seq (.reg false [oo_ 4 (.new 46 [.nilsl,.nilsl,.nilsl]) []]) (.seq (.reg false [om_ 5 0 [],oo_ 6 (.build [.nilsl,.nilsl] [(0,1,(.t 5))]) [0],om_ 7 1 [],oo_ 8 (.call 156 [(.t 6),(.t 7)]) [1,2],on_ (.store 3 (.t 4) (.t
 8)) [3,3,0,1,2,3]]) .ret))
theorem o_90 : fnOf Tryz.prog o_8y = some (o_8z, [.cell 4 true 3], 9, false) := by kernel_rfl

abbrev o_91 : FuncId := 79
def o_92 : C := (.seq (.reg false [oo_ 4 (.mv (.d .nilsl)) []]) (.seq (.reg false [oo_ 7 (.call 80 [(.d (.int .i64 1))]) [],om_ 5 7 [0,0,0]]) (.seq (.seq (.reg false [oo_ 6 (.mv (.d (.int .i64 0))) []]) (.block 0 (.loop (.seq (.seq
 (.reg false [om_ 8 6 [],om_ 9 1 [],oo_ 10 (.bin .lss (.t 8) (.t 9)) [0,1]]) (.cond (.t 10) .skip (.exit 0))) (.seq (.block 1 (.reg false [om_ 13 5 [],om_ 14 0 [],oo_ 15 (.call 83 [(.t 13),(.t 14)]) [0,1],om_ 5 15
 [2,2,0,1,2]])) (.reg false [om_ 11 6 [],oo_ 12 (.bin .add (.t 11) (.d (.int .i64 1))) [0],om_ 6 12 [1,0,1]])))))) (.seq (.reg false [om_ 16 5 [],om_ 4 16 [0,0]]) .ret))))
theorem o_93 : fnOf Tryz.prog o_91 = some (o_92, [.t 4], 17, false) := by kernel_rfl

abbrev o_94 : FuncId := 80
def o_95 : C := (.seq (.reg false [oo_ 2 (.mv (.d .nilsl)) []]) (.seq (.reg false [oo_ 3 (.mv (.d .nilsl)) []]) (.seq (.block 0 (.loop (.seq (.seq (.reg false [om_ 4 0 [],oo_ 5 (.bin .gtr (.t 4) (.d (.int .i64 0))) [0]]) (.cond (.t 5)
 .skip (.exit 0))) (.block 1 (.seq (.reg false [om_ 6 3 [],om_ 7 0 [],oo_ 8 (.bin .rem (.t 7) (.d (.int .i64 10000))) [1],oo_ 9 (.bsl 3 1 1 [(.int .i64 0)] [(0,1,(.t 8))]) [2],oo_ 10 (.app 3 1 8 (.t 6) (.t 9)) [0,3],om_
 3 10 [4,4,0,1,2,3,4]]) (.reg false [om_ 11 0 [],oo_ 12 (.bin .quo (.t 11) (.d (.int .i64 10000))) [0],om_ 0 12 [1,0,1]])))))) (.seq (.reg false [om_ 13 3 [],om_ 2 13 [0,0]]) .ret))))
theorem o_96 : fnOf Tryz.prog o_94 = some (o_95, [.t 2], 14, false) := by kernel_rfl

abbrev o_97 : FuncId := 81
def o_98 : C := (.seq (.reg false [oo_ 2 (.new 46 [.nilsl,.nilsl,.nilsl]) []]) (.seq (.reg false [om_ 3 0 [],oo_ 4 (.call 157 [(.t 3)]) [0],oo_ 5 (.call 80 [(.d (.int .i64 1))]) [1],oo_ 6 (.build [.nilsl,.nilsl,.nilsl] [(0,2,(.t
 4)),(2,1,(.t 5))]) [1,2],on_ (.store 3 (.t 2) (.t 6)) [3,2,0,1,2,3]]) .ret))
theorem o_99 : fnOf Tryz.prog o_97 = some (o_98, [.cell 2 true 3], 7, false) := by kernel_rfl

abbrev o_9a : FuncId := 82
def o_9b : C := (.seq (.reg false [oo_ 4 (.mv (.d .nilsl)) []]) (.seq (.reg false [oo_ 5 (.mv (.d .nilsl)) []]) (.seq (.reg false [oo_ 6 (.mv (.d (.int .i64 0))) []]) (.seq (.seq (.reg false [oo_ 7 (.mv (.d (.int .i64 0))) []]) (.block
 0 (.loop (.seq (.seq (.reg false [om_ 8 7 [],om_ 9 0 [],oo_ 10 (.len (.t 9)) [1],oo_ 11 (.bin .lss (.t 8) (.t 10)) [0,2],om_ 12 11 [3],og_ 13 (.mv (.t 7)) 12 false [4],og_ 14 (.mv (.t 1)) 12 false [4],og_ 15 (.len (.t
 14)) 12 false [6,4],og_ 16 (.bin .lss (.t 13) (.t 15)) 12 false [5,7,4],oo_ 17 (.pick (.t 12) (.d (.bool true)) (.t 16)) [4,8],om_ 18 17 [9,4],og_ 19 (.mv (.t 6)) 18 false [10],og_ 20 (.bin .gtr (.t 19) (.d (.int .i64
 0))) 18 false [11,10],oo_ 21 (.pick (.t 18) (.d (.bool true)) (.t 20)) [10,12]]) (.cond (.t 21) .skip (.exit 0))) (.seq (.block 1 (.seq (.seq (.reg false [om_ 24 7 [],om_ 25 0 [],oo_ 26 (.len (.t 25)) [1],oo_ 27 (.bin
 .lss (.t 24) (.t 26)) [0,2]]) (.cond (.t 27) (.reg false [om_ 28 6 [],om_ 29 0 [],om_ 30 7 [],oo_ 31 (.ix 1 (.t 29) (.t 30)) [1,2],oo_ 32 (.load false 1 (.t 31)) [3],oo_ 33 (.bin .add (.t 28) (.t 32)) [0,4],om_ 6 33
 [5,0,1,2,3,4,5]]) .skip)) (.seq (.seq (.reg false [om_ 34 7 [],om_ 35 1 [],oo_ 36 (.len (.t 35)) [1],oo_ 37 (.bin .lss (.t 34) (.t 36)) [0,2]]) (.cond (.t 37) (.reg false [om_ 38 6 [],om_ 39 1 [],om_ 40 7 [],oo_ 41 (.ix
 1 (.t 39) (.t 40)) [1,2],oo_ 42 (.load false 1 (.t 41)) [3],oo_ 43 (.bin .add (.t 38) (.t 42)) [0,4],om_ 6 43 [5,0,1,2,3,4,5]]) .skip)) (.seq (.reg false [om_ 44 5 [],om_ 45 6 [],oo_ 46 (.bin .rem (.t 45) (.d (.int .i64
 10000))) [1],oo_ 47 (.bsl 3 1 1 [(.int .i64 0)] [(0,1,(.t 46))]) [2],oo_ 48 (.app 3 1 8 (.t 44) (.t 47)) [0,3],om_ 5 48 [4,4,0,1,2,3,4]]) (.reg false [om_ 49 6 [],oo_ 50 (.bin .quo (.t 49) (.d (.int .i64 10000)))
 [0],om_ 6 50 [1,0,1]]))))) (.reg false [om_ 22 7 [],oo_ 23 (.bin .add (.t 22) (.d (.int .i64 1))) [0],om_ 7 23 [1,0,1]])))))) (.seq (.reg false [om_ 51 5 [],oo_ 52 (.call 158 [(.t 51)]) [0],om_ 4 52 [1,1,0,1]]) .ret)))))
theorem o_9c : fnOf Tryz.prog o_9a = some (o_9b, [.t 4], 53, false) := by kernel_rfl

abbrev o_9d : FuncId := 83
def o_9e : C := (.seq (.reg false [oo_ 4 (.mv (.d .nilsl)) []]) (.seq (.reg false [om_ 10 0 [],oo_ 11 (.len (.t 10)) [0],om_ 12 1 [],oo_ 13 (.len (.t 12)) [2],oo_ 14 (.bin .add (.t 11) (.t 13)) [1,3],oo_ 15 (.bin .add (.t 14) (.d (.int
 .i64 1))) [4],oo_ 16 (.mksl 3 1 8 [(.int .i64 0)] (.t 15) (.t 15)) [5,5],om_ 5 16 [6,0,1,2,3,4,5,6]]) (.seq (.seq (.reg false [oo_ 6 (.mv (.d (.int .i64 0))) []]) (.block 0 (.loop (.seq (.seq (.reg false [om_ 17 6
 [],om_ 18 0 [],oo_ 19 (.len (.t 18)) [1],oo_ 20 (.bin .lss (.t 17) (.t 19)) [0,2]]) (.cond (.t 20) .skip (.exit 0))) (.seq (.block 1 (.seq (.reg false [oo_ 7 (.mv (.d (.int .i64 0))) []]) (.seq (.reg false [oo_ 8 (.mv
 (.d (.int .i64 0))) []]) (.block 2 (.loop (.seq (.seq (.reg false [om_ 23 8 [],om_ 24 1 [],oo_ 25 (.len (.t 24)) [1],oo_ 26 (.bin .lss (.t 23) (.t 25)) [0,2],om_ 27 26 [3],og_ 28 (.mv (.t 7)) 27 false [4],og_ 29 (.bin
 .gtr (.t 28) (.d (.int .i64 0))) 27 false [5,4],oo_ 30 (.pick (.t 27) (.d (.bool true)) (.t 29)) [4,6]]) (.cond (.t 30) .skip (.exit 2))) (.seq (.block 3 (.seq (.reg false [om_ 33 5 [],om_ 34 6 [],om_ 35 8 [],oo_ 36
 (.bin .add (.t 34) (.t 35)) [1,2],oo_ 37 (.ix 1 (.t 33) (.t 36)) [0,3],oo_ 38 (.load false 1 (.t 37)) [4],om_ 39 7 [],oo_ 40 (.bin .add (.t 38) (.t 39)) [5,6],om_ 9 40 [7,0,1,2,3,4,5,6,7]]) (.seq (.seq (.reg false [om_
 41 8 [],om_ 42 1 [],oo_ 43 (.len (.t 42)) [1],oo_ 44 (.bin .lss (.t 41) (.t 43)) [0,2]]) (.cond (.t 44) (.reg true [om_ 45 9 [],om_ 46 0 [],om_ 47 6 [],oo_ 48 (.ix 1 (.t 46) (.t 47)) [1,2],oo_ 49 (.load false 1 (.t 48))
 [3],om_ 50 1 [],om_ 51 8 [],oo_ 52 (.ix 1 (.t 50) (.t 51)) [5,6],oo_ 53 (.load false 1 (.t 52)) [7],oo_ 54 (.bin .mul (.t 49) (.t 53)) [4,8],oo_ 55 (.bin .add (.t 45) (.t 54)) [0,9],om_ 9 55
 [10,0,1,2,3,4,5,6,7,8,9,10]]) .skip)) (.seq (.reg false [om_ 56 5 [],om_ 57 6 [],om_ 58 8 [],oo_ 59 (.bin .add (.t 57) (.t 58)) [1,2],om_ 60 9 [],oo_ 61 (.bin .rem (.t 60) (.d (.int .i64 10000))) [4],oo_ 62 (.ix 1 (.t
 56) (.t 59)) [0,3,0,1,2,3,4,5],on_ (.store 1 (.t 62) (.t 61)) [6,5,0,1,2,3,4,5]]) (.reg false [om_ 63 9 [],oo_ 64 (.bin .quo (.t 63) (.d (.int .i64 10000))) [0],om_ 7 64 [1,0,1]]))))) (.reg false [om_ 31 8 [],oo_ 32
 (.bin .add (.t 31) (.d (.int .i64 1))) [0],om_ 8 32 [1,0,1]])))))))) (.reg false [om_ 21 6 [],oo_ 22 (.bin .add (.t 21) (.d (.int .i64 1))) [0],om_ 6 22 [1,0,1]])))))) (.seq (.reg false [om_ 65 5 [],oo_ 66 (.call 158
 [(.t 65)]) [0],om_ 4 66 [1,1,0,1]]) .ret))))
theorem o_9f : fnOf Tryz.prog o_9d = some (o_9e, [.t 4], 67, false) := by kernel_rfl

abbrev o_9g : FuncId := 102
def o_9h : C := (.seq (.reg false [oo_ 1 (.box 78 (.t 0)) [],oo_ 2 (.mv .bad) []]) (.seq (.reg true [oo_ 3 (.mkm 1000391) [],oo_ 4 (.load true 3 (.t 1)) [],oo_ 5 (.call 21 [(.d (.int .i64 1))]) [],on_ (.mput 1000391 [0,0,1] 3 true (.t
 3) (.t 4) (.t 5)) [0,1,2],om_ 6 3 [0,1,2,3],om_ 2 6 [4,2,0,1,2,3,4]]) .ret))
theorem o_9i : fnOf Tryz.prog o_9g = some (o_9h, [.t 2], 7, false) := by kernel_rfl

abbrev o_9j : FuncId := 121
def o_9k : C := (.seq (.reg false [oo_ 1 (.box 27 (.t 0)) [],oo_ 2 (.new 27 [.nilsl,(.bool false)]) []]) (.seq (.reg false [oo_ 3 (.fa 1 (.t 1)) [],oo_ 4 (.load false 1 (.t 3)) [0],oo_ 5 (.un .not (.t 4)) [1],oo_ 6 (.fa 0 (.t 1))
 [],oo_ 7 (.load true 1 (.t 6)) [3],oo_ 8 (.call 135 [(.t 5),(.t 7)]) [2,4],on_ (.store 2 (.t 2) (.t 8)) [5,5,0,1,2,3,4,5]]) .ret))
theorem o_9l : fnOf Tryz.prog o_9j = some (o_9k, [.cell 2 true 2], 9, false) := by kernel_rfl

abbrev o_9m : FuncId := 133
def o_9n : C := (.seq (.reg false [oo_ 2 (.box 25 (.t 0)) [],oo_ 4 (.new 25 [.nilsl]) [],oo_ 5 (.mv (.d (.int .i64 0))) []]) (.seq (.block 0 (.seq (.reg false [om_ 8 1 [],oo_ 9 (.bin .lss (.t 8) (.d (.int .i64 0))) [0],om_ 7 9 [1]])
 (.cond (.t 7) (.seq (.reg false [oo_ 10 (.build [.nilsl] []) [],on_ (.store 1 (.t 4) (.t 10)) [0,0],oo_ 5 (.mv (.d (.int .i64 2))) [1,0,1]]) .ret) (.seq (.reg false [oo_ 12 (.load true 1 (.t 2)) [],oo_ 13 (.call 191
 [(.t 12)]) [0],oo_ 14 (.bin .gtr (.t 13) (.d (.int .i64 1))) [1],om_ 15 14 [2,1],og_ 16 (.mv (.t 1)) 15 true [3],og_ 17 (.load true 1 (.t 2)) 15 true [3],og_ 18 (.call 191 [(.t 17)]) 15 true [5,3,3],og_ 19 (.bin .quo
 (.d (.int .i64 8192)) (.t 18)) 15 true [6,3],og_ 20 (.bin .gtr (.t 16) (.t 19)) 15 true [4,7,3],oo_ 21 (.pick (.t 15) (.t 20) (.d (.bool false))) [3,8],om_ 11 21 [9,6]]) (.cond (.t 11) (.seq (.reg false [oo_ 22 (.build
 [.nilsl] []) [],on_ (.store 1 (.t 4) (.t 22)) [0,0],oo_ 5 (.mv (.d (.int .i64 3))) [1,0,1]]) .ret) .skip))))) (.seq (.reg false [oo_ 23 (.bsl 194 1 1 [(.int .u64 0)] [(0,1,(.d (.int .u64 1)))]) [],oo_ 24 (.call 139 [(.t
 23)]) [0],oo_ 6 (.new 25 [.nilsl]) [],on_ (.store 1 (.t 6) (.t 24)) [2,1,1,0,1,2]]) (.seq (.seq (.reg false [oo_ 25 (.load true 1 (.t 2)) [],oo_ 26 (.call 191 [(.t 25)]) [0],oo_ 27 (.bin .leq (.t 26) (.d (.int .i64 1)))
 [1]]) (.cond (.t 27) (.reg false [om_ 28 1 [],oo_ 29 (.mm false [(.t 28),(.d (.int .i64 1))]) [0],om_ 1 29 [1,0,1]]) .skip)) (.seq (.block 1 (.loop (.seq (.seq (.reg false [om_ 30 1 [],oo_ 31 (.bin .gtr (.t 30) (.d
 (.int .i64 0))) [0]]) (.cond (.t 31) .skip (.exit 1))) (.seq (.block 2 (.seq (.seq (.reg false [om_ 34 1 [],oo_ 35 (.bin .and (.t 34) (.d (.int .i64 1))) [0],oo_ 36 (.bin .eql (.t 35) (.d (.int .i64 1))) [1]]) (.cond
 (.t 36) (.reg false [oo_ 37 (.load true 1 (.t 6)) [],oo_ 38 (.load true 1 (.t 2)) [],oo_ 39 (.call 76 [(.t 37),(.t 38)]) [0,1],on_ (.store 1 (.t 6) (.t 39)) [2,2,0,1,2]]) .skip)) (.reg false [oo_ 40 (.load true 1 (.t
 2)) [],oo_ 41 (.load true 1 (.t 2)) [],oo_ 42 (.call 76 [(.t 40),(.t 41)]) [0,1],on_ (.store 1 (.t 2) (.t 42)) [2,2,0,1,2]]))) (.reg false [om_ 32 1 [],oo_ 33 (.bin .shr (.t 32) (.d (.int .u64 1))) [0],om_ 1 33
 [1,0,1]]))))) (.seq (.reg false [oo_ 43 (.load true 1 (.t 6)) [],on_ (.store 1 (.t 4) (.t 43)) [0,0],oo_ 5 (.mv (.d (.int .i64 0))) [1,0,1]]) .ret))))))
theorem o_9o : fnOf Tryz.prog o_9m = some (o_9n, [.cell 4 true 1, .t 5], 44, false) := by kernel_rfl

abbrev o_9p : FuncId := 134
def o_9q : C := (.seq (.reg false [oo_ 1 (.box 27 (.t 0)) [],oo_ 2 (.new 25 [.nilsl]) []]) (.seq (.reg false [oo_ 3 (.fa 0 (.t 1)) [],oo_ 4 (.load true 1 (.t 3)) [0],on_ (.store 1 (.t 2) (.t 4)) [1,0,1]]) .ret))
theorem o_9r : fnOf Tryz.prog o_9p = some (o_9q, [.cell 2 true 1], 5, false) := by kernel_rfl

abbrev o_9s : FuncId := 135
def o_9t : C := (.seq (.reg false [oo_ 3 (.box 25 (.t 1)) [],oo_ 4 (.new 27 [.nilsl,(.bool false)]) []]) (.seq (.reg true [oo_ 5 (.load true 1 (.t 3)) [],om_ 6 0 [],om_ 7 6 [1],og_ 8 (.load true 1 (.t 3)) 7 true [2],og_ 9 (.call 137
 [(.t 8)]) 7 true [3,2,2],og_ 10 (.un .not (.t 9)) 7 true [4,2],oo_ 11 (.pick (.t 7) (.t 10) (.d (.bool false))) [2,5],oo_ 12 (.build [.nilsl,(.bool false)] [(0,1,(.t 5)),(1,1,(.t 11))]) [0,6],on_ (.store 2 (.t 4) (.t
 12)) [7,4,0,1,2,3,4,5,6,7]]) .ret))
theorem o_9u : fnOf Tryz.prog o_9s = some (o_9t, [.cell 4 true 2], 13, false) := by kernel_rfl

abbrev o_9v : FuncId := 136
def o_9w : C := (.seq (.reg false [oo_ 1 (.box 27 (.t 0)) [],oo_ 2 (.mv (.d (.bool false))) []]) (.seq (.reg false [oo_ 3 (.fa 1 (.t 1)) [],oo_ 4 (.load false 1 (.t 3)) [0],om_ 2 4 [1,0,1]]) .ret))
theorem o_9x : fnOf Tryz.prog o_9v = some (o_9w, [.t 2], 5, false) := by kernel_rfl

abbrev o_9y : FuncId := 137
def o_9z : C := (.seq (.reg false [oo_ 1 (.box 25 (.t 0)) [],oo_ 2 (.mv (.d (.bool false))) []]) (.seq (.reg false [oo_ 3 (.fa 0 (.t 1)) [],oo_ 4 (.load false 1 (.t 3)) [0],oo_ 5 (.len (.t 4)) [1],oo_ 6 (.bin .eql (.t 5) (.d (.int .i64
 0))) [2],om_ 2 6 [3,0,1,2,3]]) .ret))
theorem o_a0 : fnOf Tryz.prog o_9y = some (o_9z, [.t 2], 7, false) := by kernel_rfl

abbrev o_a1 : FuncId := 138
def o_a2 : C := (.seq (.reg false [oo_ 2 (.box 25 (.t 0)) [],oo_ 3 (.box 25 (.t 1)) [],oo_ 4 (.new 25 [.nilsl]) []]) (.seq (.seq (.reg false [oo_ 10 (.fa 0 (.t 2)) [],oo_ 11 (.load false 1 (.t 10)) [0],oo_ 12 (.len (.t 11)) [1],oo_ 13
 (.fa 0 (.t 3)) [],oo_ 14 (.load false 1 (.t 13)) [3],oo_ 15 (.len (.t 14)) [4],oo_ 16 (.bin .lss (.t 12) (.t 15)) [2,5]]) (.cond (.t 16) (.reg false [oo_ 17 (.load true 1 (.t 3)) [],oo_ 18 (.load true 1 (.t 2)) [],on_
 (.store 1 (.t 2) (.t 17)) [0,0,1],on_ (.store 1 (.t 3) (.t 18)) [1,2,0,1,2]]) .skip)) (.seq (.reg false [oo_ 19 (.fa 0 (.t 2)) [],oo_ 20 (.load false 1 (.t 19)) [0],oo_ 21 (.len (.t 20)) [1],oo_ 22 (.bin .add (.t 21)
 (.d (.int .i64 1))) [2],oo_ 23 (.mksl 194 1 8 [(.int .u64 0)] (.t 22) (.t 22)) [3,3],om_ 5 23 [4,0,1,2,3,4]]) (.seq (.reg false [oo_ 6 (.mv (.d (.int .u64 0))) []]) (.seq (.seq (.reg false [oo_ 24 (.fa 0 (.t 2)) [],oo_
 25 (.load false 1 (.t 24)) [0],oo_ 26 (.len (.t 25)) [1],oo_ 27 (.mv (.d (.int .i64 0))) []]) (.block 0 (.loop (.seq (.reg false [oo_ 28 (.bin .lss (.t 27) (.t 26)) []]) (.seq (.cond (.t 28) .skip (.exit 0)) (.seq
 (.block 1 (.seq (.reg false [om_ 29 27 [],oo_ 30 (.ix 1 (.t 25) (.t 27)) [],oo_ 31 (.load false 1 (.t 30)) [1],om_ 7 29 [0,0,1,2],om_ 8 31 [2,3,0,1,2,3]]) (.seq (.reg false [oo_ 9 (.mv (.d (.int .u64 0))) []]) (.seq
 (.seq (.reg false [om_ 32 7 [],oo_ 33 (.fa 0 (.t 3)) [],oo_ 34 (.load false 1 (.t 33)) [1],oo_ 35 (.len (.t 34)) [2],oo_ 36 (.bin .lss (.t 32) (.t 35)) [0,3]]) (.cond (.t 36) (.reg false [oo_ 37 (.fa 0 (.t 3)) [],oo_ 38
 (.load false 1 (.t 37)) [0],om_ 39 7 [],oo_ 40 (.ix 1 (.t 38) (.t 39)) [1,2],oo_ 41 (.load false 1 (.t 40)) [3],om_ 9 41 [4,0,1,2,3,4]]) .skip)) (.reg false [om_ 43 5 [],om_ 44 7 [],om_ 45 8 [],om_ 46 9 [],om_ 47 6
 [],oo_ 48 (.call 149 [(.t 45),(.t 46),(.t 47)]) [2,3,4],om_ 42 48 [5],oo_ 49 (.ext (.t 42) 0) [6],oo_ 50 (.ext (.t 42) 1) [6],oo_ 51 (.ix 1 (.t 43) (.t 44)) [0,1,0,1,2,3,4,5,6,7],on_ (.store 1 (.t 51) (.t 49))
 [9,7,5,0,1,2,3,4,5,6,7],om_ 6 50 [8,10,0,1,2,3,4,5,6,7,8,9,10]]))))) (.reg false [oo_ 52 (.bin .add (.t 27) (.d (.int .i64 1))) [],om_ 27 52 [0]]))))))) (.seq (.reg false [om_ 53 5 [],oo_ 54 (.fa 0 (.t 2)) [],oo_ 55
 (.load false 1 (.t 54)) [1],oo_ 56 (.len (.t 55)) [2],om_ 57 6 [],oo_ 58 (.ix 1 (.t 53) (.t 56)) [0,3,0,1,2,3,4],on_ (.store 1 (.t 58) (.t 57)) [5,4,0,1,2,3,4]]) (.seq (.reg false [om_ 59 5 [],oo_ 60 (.call 141 [(.t
 59)]) [0],on_ (.store 1 (.t 4) (.t 60)) [1,1,0,1]]) .ret)))))))
theorem o_a3 : fnOf Tryz.prog o_a1 = some (o_a2, [.cell 4 true 1], 61, false) := by kernel_rfl

abbrev o_a4 : FuncId := 139
def o_a5 : C := (.seq (.reg false [oo_ 2 (.new 25 [.nilsl]) []]) (.seq (.reg false [om_ 3 0 [],oo_ 4 (.call 192 [(.t 3)]) [0],oo_ 5 (.call 141 [(.t 4)]) [1,1],on_ (.store 1 (.t 2) (.t 5)) [2,2,0,1,2]]) .ret))
theorem o_a6 : fnOf Tryz.prog o_a4 = some (o_a5, [.cell 2 true 1], 6, false) := by kernel_rfl

abbrev o_a7 : FuncId := 140
def o_a8 : C := (.seq (.reg false [oo_ 4 (.mv (.d .nilsl)) [],oo_ 5 (.mv (.d (.int .u64 0))) [0]]) (.seq (.reg false [om_ 9 0 [],oo_ 10 (.len (.t 9)) [0],oo_ 11 (.mksl 194 1 8 [(.int .u64 0)] (.t 10) (.t 10)) [1,1],om_ 6 11 [2,0,1,2]])
 (.seq (.reg false [oo_ 7 (.mv (.d (.int .u64 0))) []]) (.seq (.seq (.reg false [om_ 12 0 [],oo_ 13 (.len (.t 12)) [0],oo_ 14 (.bin .sub (.t 13) (.d (.int .i64 1))) [1],om_ 8 14 [2,0,1,2]]) (.block 0 (.loop (.seq (.seq
 (.reg false [om_ 15 8 [],oo_ 16 (.bin .geq (.t 15) (.d (.int .i64 0))) [0]]) (.cond (.t 16) .skip (.exit 0))) (.seq (.block 1 (.reg false [om_ 20 6 [],om_ 21 8 [],om_ 22 7 [],om_ 23 0 [],om_ 24 8 [],oo_ 25 (.ix 1 (.t
 23) (.t 24)) [3,4],oo_ 26 (.load false 1 (.t 25)) [5],om_ 27 1 [],oo_ 28 (.call 193 [(.t 22),(.t 26),(.t 27)]) [2,6,7],om_ 19 28 [8],oo_ 29 (.ext (.t 19) 0) [9],oo_ 30 (.ext (.t 19) 1) [9],oo_ 31 (.ix 1 (.t 20) (.t 21))
 [0,1,0,1,2,3,4,5,6,7,8,9,10],on_ (.store 1 (.t 31) (.t 29)) [12,10,8,0,1,2,3,4,5,6,7,8,9,10],om_ 7 30 [11,13,0,1,2,3,4,5,6,7,8,9,10,11,12,13]])) (.reg false [om_ 17 8 [],oo_ 18 (.bin .sub (.t 17) (.d (.int .i64 1)))
 [0],om_ 8 18 [1,0,1]])))))) (.seq (.reg false [om_ 32 6 [],om_ 33 7 [],om_ 4 32 [0,0],om_ 5 33 [1,2,0,1,2]]) .ret)))))
theorem o_a9 : fnOf Tryz.prog o_a7 = some (o_a8, [.t 4, .t 5], 34, false) := by kernel_rfl

abbrev o_aa : FuncId := 141
def o_ab : C := (.seq (.reg false [oo_ 2 (.new 25 [.nilsl]) []]) (.seq (.reg false [om_ 4 0 [],oo_ 5 (.len (.t 4)) [0],om_ 3 5 [1,0,1]]) (.seq (.block 0 (.loop (.seq (.seq (.reg false [om_ 6 3 [],oo_ 7 (.bin .gtr (.t 6) (.d (.int .i64
 0))) [0],om_ 8 7 [1],og_ 9 (.mv (.t 0)) 8 true [2],og_ 10 (.mv (.t 3)) 8 true [2],og_ 11 (.bin .sub (.t 10) (.d (.int .i64 1))) 8 true [4,2],og_ 12 (.ix 1 (.t 9) (.t 11)) 8 true [3,5,2],og_ 13 (.load false 1 (.t 12)) 8
 true [6,2],og_ 14 (.bin .eql (.t 13) (.d (.int .u64 0))) 8 true [7,2],oo_ 15 (.pick (.t 8) (.t 14) (.d (.bool false))) [2,8]]) (.cond (.t 15) .skip (.exit 0))) (.block 1 (.reg false [om_ 16 3 [],oo_ 17 (.bin .sub (.t
 16) (.d (.int .i64 1))) [0],om_ 3 17 [1,0,1]]))))) (.seq (.reg false [om_ 18 0 [],om_ 19 3 [],oo_ 20 (.slice 1 (.t 18) none (some (.t 19)) none) [0,1],oo_ 21 (.build [.nilsl] [(0,1,(.t 20))]) [2],on_ (.store 1 (.t 2)
 (.t 21)) [3,0,1,2,3]]) .ret))))
theorem o_ac : fnOf Tryz.prog o_aa = some (o_ab, [.cell 2 true 1], 22, false) := by kernel_rfl

abbrev o_ad : FuncId := 142
def o_ae : C := (.seq (.reg false [⟨some 4,.mv (.d (.str ⟨#[]⟩)),none,[]⟩]) (.seq (.reg false [om_ 5 0 [],om_ 6 1 [],oo_ 7 (.call 194 [(.t 5),(.t 6)]) [0,1],om_ 4 7 [2,2,0,1,2]]) .ret))
theorem o_af : fnOf Tryz.prog o_ad = some (o_ae, [.t 4], 8, false) := by kernel_rfl

abbrev o_ag : FuncId := 143
def o_ah : C := (.seq (.reg false [⟨some 4,.mv (.d (.str ⟨#[]⟩)),none,[]⟩]) (.seq (.seq (.reg false [om_ 11 1 []]) (.block 0 (.seq (.reg false [oo_ 13 (.bin .eql (.t 11) (.d (.int .i64 0))) [],om_ 12 13 [0]]) (.cond (.t 12) (.seq (.reg
 false [⟨some 4,.mv (.d (.str ⟨#[]⟩)),none,[]⟩]) .ret) (.seq (.reg false [oo_ 15 (.bin .eql (.t 11) (.d (.int .i64 1))) [],om_ 14 15 [0]]) (.cond (.t 14) (.seq (.reg false [om_ 16 0 [],om_ 4 16 [0,0]]) .ret) .skip))))))
 (.seq (.seq (.reg false [om_ 17 1 [],oo_ 18 (.bin .lss (.t 17) (.d (.int .i64 0))) [0]]) (.cond (.t 18) (.reg false [⟨some 19,.ifc 9 (.d (.str
 ⟨#[115,116,114,105,110,103,115,58,32,110,101,103,97,116,105,118,101,32,82,101,112,101,97,116,32,99,111,117,110,116]⟩)),none,[]⟩,on_ (.bad) [0]]) .skip)) (.seq (.reg false [om_ 21 0 [],oo_ 22 (.lens (.t 21)) [0],oo_ 23
 (.conv .u64 (.t 22)) [1],om_ 24 1 [],oo_ 25 (.conv .u64 (.t 24)) [3],oo_ 26 (.call 195 [(.t 23),(.t 25)]) [2,4],om_ 20 26 [5],oo_ 27 (.ext (.t 20) 0) [6],oo_ 28 (.ext (.t 20) 1) [6],om_ 5 27 [7,5,0,1,2,3,4,5,6,7],om_ 6
 28 [8,9,0,1,2,3,4,5,6,7,8,9]]) (.seq (.seq (.reg false [om_ 29 5 [],oo_ 30 (.bin .gtr (.t 29) (.d (.int .u64 0))) [0],om_ 31 30 [1],og_ 32 (.mv (.t 6)) 31 false [2],og_ 33 (.bin .gtr (.t 32) (.d (.int .u64
 9223372036854775807))) 31 false [3,2],oo_ 34 (.pick (.t 31) (.d (.bool true)) (.t 33)) [2,4]]) (.cond (.t 34) (.reg false [⟨some 35,.ifc 9 (.d (.str
 ⟨#[115,116,114,105,110,103,115,58,32,82,101,112,101,97,116,32,111,117,116,112,117,116,32,108,101,110,103,116,104,32,111,118,101,114,102,108,111,119]⟩)),none,[]⟩,on_ (.bad) [0]]) .skip)) (.seq (.reg false [om_ 36 6
 [],oo_ 37 (.conv .i64 (.t 36)) [0],om_ 7 37 [1,0,1]]) (.seq (.seq (.reg false [om_ 38 0 [],oo_ 39 (.lens (.t 38)) [0],oo_ 40 (.bin .eql (.t 39) (.d (.int .i64 0))) [1]]) (.cond (.t 40) (.seq (.reg false [⟨some 4,.mv (.d
 (.str ⟨#[]⟩)),none,[]⟩]) .ret) .skip)) (.seq (.seq (.reg false [om_ 41 0 [],oo_ 42 (.gstr (.t 41) (.d (.int .i64 0))) [0]]) (.block 1 (.seq (.seq (.reg false [oo_ 44 (.bin .eql (.t 42) (.d (.int .u8 32))) [],om_ 43 44
 [0]]) (.cond (.t 43) .skip (.seq (.reg false [oo_ 45 (.bin .eql (.t 42) (.d (.int .u8 45))) [],om_ 43 45 [0]]) (.cond (.t 43) .skip (.seq (.reg false [oo_ 46 (.bin .eql (.t 42) (.d (.int .u8 48))) [],om_ 43 46 [0]])
 (.cond (.t 43) .skip (.seq (.reg false [oo_ 47 (.bin .eql (.t 42) (.d (.int .u8 61))) [],om_ 43 47 [0]]) (.cond (.t 43) .skip (.reg false [oo_ 48 (.bin .eql (.t 42) (.d (.int .u8 9))) [],om_ 43 48 [0]]))))))))) (.cond
 (.t 43) (.block 2 (.seq (.reg false [om_ 50 7 [],oo_ 51 (.bin .leq (.t 50) (.d (.int .i64 128))) [0],om_ 52 51 [1],og_ 53 (.mv (.t 0)) 52 true [2],⟨some 54,.call 196 [(.d (.str
 ⟨#[32,32,32,32,32,32,32,32,32,32,32,32,32,32,32,32,32,32,32,32,32,32,32,32,32,32,32,32,32,32,32,32,32,32,32,32,32,32,32,32,32,32,32,32,32,32,32,32,32,32,32,32,32,32,32,32,32,32,32,32,32,32,32,32,32,32,32,32,32,32,32,32,32,32,32,32,32,32,32,32,32,32,32,32,32,32,32,32,32,32,32,32,32,32,32,32,32,32,32,32,32,32,32,32,32,32,32,32,32,32,32,32,32,32,32,32,32,32,32,32,32,32,32,32,32,32,32,32]⟩)),(.t 53)],some (52,true),[3,2,2]⟩,oo_ 55 (.pick (.t 52) (.t 54) (.d (.bool false))) [2,4],om_ 49 55 [5,4]]) (.cond (.t 49) (.seq (.reg false [om_ 56 7 [],⟨some 57,.sstr (.d (.str ⟨#[32,32,32,32,32,32,32,32,32,32,32,32,32,32,32,32,32,32,32,32,32,32,32,32,32,32,32,32,32,32,32,32,32,32,32,32,32,32,32,32,32,32,32,32,32,32,32,32,32,32,32,32,32,32,32,32,32,32,32,32,32,32,32,32,32,32,32,32,32,32,32,32,32,32,32,32,32,32,32,32,32,32,32,32,32,32,32,32,32,32,32,32,32,32,32,32,32,32,32,32,32,32,32,32,32,32,32,32,32,32,32,32,32,32,32,32,32,32,32,32,32,32,32,32,32,32,32,32]⟩)) none (some (.t 56)),none,[0]⟩,om_ 4 57 [1,0,1]]) .ret) (.seq (.reg false [om_ 59 7 [],oo_ 60 (.bin .leq (.t 59) (.d (.int .i64 128))) [0],om_ 61 60 [1],og_ 62 (.mv (.t 0)) 61 true [2],⟨some 63,.call 196 [(.d (.str ⟨#[45,45,45,45,45,45,45,45,45,45,45,45,45,45,45,45,45,45,45,45,45,45,45,45,45,45,45,45,45,45,45,45,45,45,45,45,45,45,45,45,45,45,45,45,45,45,45,45,45,45,45,45,45,45,45,45,45,45,45,45,45,45,45,45,45,45,45,45,45,45,45,45,45,45,45,45,45,45,45,45,45,45,45,45,45,45,45,45,45,45,45,45,45,45,45,45,45,45,45,45,45,45,45,45,45,45,45,45,45,45,45,45,45,45,45,45,45,45,45,45,45,45,45,45,45,45,45,45]⟩)),(.t 62)],some (61,true),[3,2,2]⟩,oo_ 64 (.pick (.t 61) (.t 63) (.d (.bool false))) [2,4],om_ 58 64 [5,4]]) (.cond (.t 58) (.seq (.reg false [om_ 65 7 [],⟨some 66,.sstr (.d (.str ⟨#[45,45,45,45,45,45,45,45,45,45,45,45,45,45,45,45,45,45,45,45,45,45,45,45,45,45,45,45,45,45,45,45,45,45,45,45,45,45,45,45,45,45,45,45,45,45,45,45,45,45,45,45,45,45,45,45,45,45,45,45,45,45,45,45,45,45,45,45,45,45,45,45,45,45,45,45,45,45,45,45,45,45,45,45,45,45,45,45,45,45,45,45,45,45,45,45,45,45,45,45,45,45,45,45,45,45,45,45,45,45,45,45,45,45,45,45,45,45,45,45,45,45,45,45,45,45,45,45]⟩)) none (some (.t 65)),none,[0]⟩,om_ 4 66 [1,0,1]]) .ret) (.seq (.reg false [om_ 68 7 [],oo_ 69 (.bin .leq (.t 68) (.d (.int .i64 64))) [0],om_ 70 69 [1],og_ 71 (.mv (.t 0)) 70 true [2],⟨some 72,.call 196 [(.d (.str ⟨#[48,48,48,48,48,48,48,48,48,48,48,48,48,48,48,48,48,48,48,48,48,48,48,48,48,48,48,48,48,48,48,48,48,48,48,48,48,48,48,48,48,48,48,48,48,48,48,48,48,48,48,48,48,48,48,48,48,48,48,48,48,48,48,48]⟩)),(.t 71)],some (70,true),[3,2,2]⟩,oo_ 73 (.pick (.t 70) (.t 72) (.d (.bool false))) [2,4],om_ 67 73 [5,4]]) (.cond (.t 67) (.seq (.reg false [om_ 74 7 [],⟨some 75,.sstr (.d (.str ⟨#[48,48,48,48,48,48,48,48,48,48,48,48,48,48,48,48,48,48,48,48,48,48,48,48,48,48,48,48,48,48,48,48,48,48,48,48,48,48,48,48,48,48,48,48,48,48,48,48,48,48,48,48,48,48,48,48,48,48,48,48,48,48,48,48]⟩)) none (some (.t 74)),none,[0]⟩,om_ 4 75 [1,0,1]]) .ret) (.seq (.reg false [om_ 77 7 [],oo_ 78 (.bin .leq (.t 77) (.d (.int .i64 128))) [0],om_ 79 78 [1],og_ 80 (.mv (.t 0)) 79 true [2],⟨some 81,.call 196 [(.d (.str ⟨#[61,61,61,61,61,61,61,61,61,61,61,61,61,61,61,61,61,61,61,61,61,61,61,61,61,61,61,61,61,61,61,61,61,61,61,61,61,61,61,61,61,61,61,61,61,61,61,61,61,61,61,61,61,61,61,61,61,61,61,61,61,61,61,61,61,61,61,61,61,61,61,61,61,61,61,61,61,61,61,61,61,61,61,61,61,61,61,61,61,61,61,61,61,61,61,61,61,61,61,61,61,61,61,61,61,61,61,61,61,61,61,61,61,61,61,61,61,61,61,61,61,61,61,61,61,61,61,61]⟩)),(.t 80)],some (79,true),[3,2,2]⟩,oo_ 82 (.pick (.t 79) (.t 81) (.d (.bool false))) [2,4],om_ 76 82 [5,4]]) (.cond (.t 76) (.seq (.reg false [om_ 83 7 [],⟨some 84,.sstr (.d (.str ⟨#[61,61,61,61,61,61,61,61,61,61,61,61,61,61,61,61,61,61,61,61,61,61,61,61,61,61,61,61,61,61,61,61,61,61,61,61,61,61,61,61,61,61,61,61,61,61,61,61,61,61,61,61,61,61,61,61,61,61,61,61,61,61,61,61,61,61,61,61,61,61,61,61,61,61,61,61,61,61,61,61,61,61,61,61,61,61,61,61,61,61,61,61,61,61,61,61,61,61,61,61,61,61,61,61,61,61,61,61,61,61,61,61,61,61,61,61,61,61,61,61,61,61,61,61,61,61,61,61]⟩)) none (some (.t 83)),none,[0]⟩,om_ 4 84 [1,0,1]]) .ret) (.seq (.reg false [om_ 86 7 [],oo_ 87 (.bin .leq (.t 86) (.d (.int .i64 64))) [0],om_ 88 87 [1],og_ 89 (.mv (.t 0)) 88 true [2],⟨some 90,.call 196 [(.d (.str ⟨#[9,9,9,9,9,9,9,9,9,9,9,9,9,9,9,9,9,9,9,9,9,9,9,9,9,9,9,9,9,9,9,9,9,9,9,9,9,9,9,9,9,9,9,9,9,9,9,9,9,9,9,9,9,9,9,9,9,9,9,9,9,9,9,9]⟩)),(.t 89)],some (88,true),[3,2,2]⟩,oo_ 91 (.pick (.t 88) (.t 90) (.d (.bool false))) [2,4],om_ 85 91 [5,4]]) (.cond (.t 85) (.seq (.reg false [om_ 92 7 [],⟨some 93,.sstr (.d (.str ⟨#[9,9,9,9,9,9,9,9,9,9,9,9,9,9,9,9,9,9,9,9,9,9,9,9,9,9,9,9,9,9,9,9,9,9,9,9,9,9,9,9,9,9,9,9,9,9,9,9,9,9,9,9,9,9,9,9,9,9,9,9,9,9,9,9]⟩)) none (some (.t 92)),none,[0]⟩,om_ 4 93 [1,0,1]]) .ret) .skip))))))))))) .skip)))) (.seq (.reg false [om_ 94 7 [],om_ 8 94 [0,0]]) (.seq (.seq (.reg false [om_ 95 7 [],oo_ 96 (.bin .gtr (.t 95) (.d (.int .i64 8192))) [0]]) (.cond (.t 96) (.seq (.reg false [om_ 97 0 [],oo_ 98 (.lens (.t 97)) [0],oo_ 99 (.bin .quo (.d (.int .i64 8192)) (.t 98)) [1],om_ 100 0 [],oo_ 101 (.lens (.t 100)) [3],oo_ 102 (.bin .mul (.t 99) (.t 101)) [2,4],om_ 8 102 [5,0,1,2,3,4,5]]) (.seq (.reg false [om_ 103 8 [],oo_ 104 (.bin .eql (.t 103) (.d (.int .i64 0))) [0]]) (.cond (.t 104) (.reg false [om_ 105 0 [],oo_ 106 (.lens (.t 105)) [0],om_ 8 106 [1,0,1]]) .skip))) .skip)) (.seq (.reg false [oo_ 9 (.new 254 [.nilp,.nilsl]) []]) (.seq (.reg false [om_ 107 7 [],oo_ 108 (.call 197 [(.t 9),(.t 107)]) [0]]) (.seq (.reg false [om_ 109 0 [],oo_ 110 (.call 198 [(.t 9),(.t 109)]) [0]]) (.seq (.block 3 (.loop (.seq (.seq (.reg false [oo_ 111 (.call 199 [(.t 9)]) [],om_ 112 7 [],oo_ 113 (.bin .lss (.t 111) (.t 112)) [0,1]]) (.cond (.t 113) .skip (.exit 3))) (.block 4 (.seq (.reg false [om_ 114 7 [],oo_ 115 (.call 199 [(.t 9)]) [],oo_ 116 (.bin .sub (.t 114) (.t 115)) [0,1],oo_ 117 (.call 199 [(.t 9)]) [1],om_ 118 8 [],oo_ 119 (.mm false [(.t 116),(.t 117),(.t 118)]) [2,3,4],om_ 10 119 [5,3,0,1,2,3,4,5]]) (.reg false [oo_ 120 (.call 200 [(.t 9)]) [],om_ 121 10 [],oo_ 122 (.sstr (.t 120) none (some (.t 121))) [0,1],oo_ 123 (.call 198 [(.t 9),(.t 122)]) [2,0]])))))) (.seq (.reg false [oo_ 124 (.call 200 [(.t 9)]) [],om_ 4 124 [0,0,0]]) .ret)))))))))))))))
theorem o_ai : fnOf Tryz.prog o_ag = some (o_ah, [.t 4], 125, false) := by kernel_rfl

abbrev o_aj : FuncId := 144
def o_ak : C := (.seq (.reg false [oo_ 2 (.box 25 (.t 0)) [],oo_ 3 (.box 25 (.t 1)) [],oo_ 4 (.mv (.d (.int .i64 0))) []]) (.seq (.seq (.reg false [oo_ 9 (.fa 0 (.t 2)) [],oo_ 10 (.load false 1 (.t 9)) [0],oo_ 11 (.len (.t 10)) [1],oo_
 12 (.fa 0 (.t 3)) [],oo_ 13 (.load false 1 (.t 12)) [3],oo_ 14 (.len (.t 13)) [4],oo_ 15 (.bin .sub (.t 11) (.t 14)) [2,5],om_ 5 15 [6,0,1,2,3,4,5,6]]) (.seq (.reg false [om_ 16 5 [],oo_ 17 (.bin .neq (.t 16) (.d (.int
 .i64 0))) [0]]) (.cond (.t 17) (.seq (.reg false [om_ 18 5 [],oo_ 19 (.mm false [(.t 18),(.d (.int .i64 1))]) [0],oo_ 20 (.mm true [(.d (.int .i64 (-1))),(.t 19)]) [1],om_ 4 20 [2,0,1,2]]) .ret) .skip))) (.seq (.seq
 (.reg false [oo_ 21 (.fa 0 (.t 2)) [],oo_ 22 (.load false 1 (.t 21)) [0],oo_ 23 (.len (.t 22)) [1],oo_ 24 (.bin .sub (.t 23) (.d (.int .i64 1))) [2],om_ 6 24 [3,0,1,2,3]]) (.block 0 (.loop (.seq (.seq (.reg false [om_
 25 6 [],oo_ 26 (.bin .geq (.t 25) (.d (.int .i64 0))) [0]]) (.cond (.t 26) .skip (.exit 0))) (.seq (.block 1 (.seq (.reg true [oo_ 29 (.fa 0 (.t 2)) [],oo_ 30 (.load false 1 (.t 29)) [0],om_ 31 6 [],oo_ 32 (.ix 1 (.t
 30) (.t 31)) [1,2],oo_ 33 (.load false 1 (.t 32)) [3],oo_ 34 (.fa 0 (.t 3)) [],oo_ 35 (.load false 1 (.t 34)) [5],om_ 36 6 [],oo_ 37 (.ix 1 (.t 35) (.t 36)) [6,7],oo_ 38 (.load false 1 (.t 37)) [8],om_ 7 33
 [4,0,1,2,3,4],om_ 8 38 [9,10,0,1,2,3,4,5,6,7,8,9,10]]) (.block 2 (.seq (.reg false [om_ 40 7 [],om_ 41 8 [],oo_ 42 (.bin .lss (.t 40) (.t 41)) [0,1],om_ 39 42 [2]]) (.cond (.t 39) (.seq (.reg false [oo_ 4 (.mv (.d (.int
 .i64 (-1)))) []]) .ret) (.seq (.reg false [om_ 44 7 [],om_ 45 8 [],oo_ 46 (.bin .gtr (.t 44) (.t 45)) [0,1],om_ 43 46 [2]]) (.cond (.t 43) (.seq (.reg false [oo_ 4 (.mv (.d (.int .i64 1))) []]) .ret) .skip))))))) (.reg
 false [om_ 27 6 [],oo_ 28 (.bin .sub (.t 27) (.d (.int .i64 1))) [0],om_ 6 28 [1,0,1]])))))) (.seq (.reg false [oo_ 4 (.mv (.d (.int .i64 0))) []]) .ret))))
theorem o_al : fnOf Tryz.prog o_aj = some (o_ak, [.t 4], 47, false) := by kernel_rfl

abbrev o_am : FuncId := 145
def o_an : C := (.seq (.reg false [oo_ 2 (.box 25 (.t 0)) [],oo_ 3 (.box 25 (.t 1)) [],oo_ 4 (.new 25 [.nilsl]) []]) (.seq (.block 0 (.loop (.seq (.seq (.reg false [oo_ 8 (.load true 1 (.t 3)) [],oo_ 9 (.call 137 [(.t 8)]) [0],oo_ 10
 (.un .not (.t 9)) [1]]) (.cond (.t 10) .skip (.exit 0))) (.block 1 (.seq (.reg false [oo_ 12 (.load true 1 (.t 2)) [],oo_ 13 (.load true 1 (.t 3)) [],oo_ 14 (.call 146 [(.t 12),(.t 13)]) [0,1],om_ 11 14 [2],oo_ 15 (.ext
 (.t 11) 0) [3],oo_ 16 (.ext (.t 11) 1) [3],oo_ 17 (.ext (.t 11) 2) [3],oo_ 5 (.new 25 [.nilsl]) [],oo_ 6 (.new 25 [.nilsl]) [],on_ (.store 1 (.t 5) (.t 15)) [7,4,2,0,1,2,3,4,7,8],on_ (.store 1 (.t 6) (.t 16))
 [8,5,9,0,1,2,3,4,5,7,8,9],om_ 7 17 [6,10,0,1,2,3,4,5,6,7,8,9,10]]) (.reg true [oo_ 18 (.load true 1 (.t 3)) [],oo_ 19 (.load true 1 (.t 6)) [],on_ (.store 1 (.t 2) (.t 18)) [0,0],on_ (.store 1 (.t 3) (.t 19))
 [1,2,0,1,2]])))))) (.seq (.reg false [oo_ 20 (.fa 0 (.t 2)) [],oo_ 21 (.load false 1 (.t 20)) [0],oo_ 22 (.call 139 [(.t 21)]) [1],on_ (.store 1 (.t 4) (.t 22)) [2,2,0,1,2]]) .ret)))
theorem o_ao : fnOf Tryz.prog o_am = some (o_an, [.cell 4 true 1], 23, false) := by kernel_rfl

abbrev o_ap : FuncId := 146
def o_aq : C := (.seq (.reg false [oo_ 2 (.box 25 (.t 0)) [],oo_ 3 (.box 25 (.t 1)) [],oo_ 4 (.new 25 [.nilsl]) [],oo_ 5 (.new 25 [.nilsl]) [],oo_ 6 (.mv (.d (.int .i64 0))) []]) (.seq (.block 0 (.seq (.reg false [oo_ 10 (.load true 1
 (.t 3)) [],oo_ 11 (.call 137 [(.t 10)]) [0],om_ 9 11 [1,1]]) (.cond (.t 9) (.seq (.reg false [oo_ 12 (.build [.nilsl] []) [],oo_ 13 (.build [.nilsl] []) [],on_ (.store 1 (.t 4) (.t 12)) [0,0],on_ (.store 1 (.t 5) (.t
 13)) [1,2,0,1,2],oo_ 6 (.mv (.d (.int .i64 7))) [3,0,1,2,3]]) .ret) (.seq (.reg false [oo_ 15 (.load true 1 (.t 2)) [],oo_ 16 (.load true 1 (.t 3)) [],oo_ 17 (.call 144 [(.t 15),(.t 16)]) [0,1],oo_ 18 (.bin .lss (.t 17)
 (.d (.int .i64 0))) [2],om_ 14 18 [3,2]]) (.cond (.t 14) (.seq (.reg false [oo_ 19 (.build [.nilsl] []) [],oo_ 20 (.fa 0 (.t 2)) [],oo_ 21 (.load false 1 (.t 20)) [1],oo_ 22 (.call 139 [(.t 21)]) [2],on_ (.store 1 (.t
 4) (.t 19)) [0,3,0],on_ (.store 1 (.t 5) (.t 22)) [3,4,0,1,2,3,4],oo_ 6 (.mv (.d (.int .i64 0))) [5,0,1,2,3,4,5]]) .ret) (.seq (.reg false [oo_ 24 (.fa 0 (.t 3)) [],oo_ 25 (.load false 1 (.t 24)) [0],oo_ 26 (.len (.t
 25)) [1],oo_ 27 (.bin .eql (.t 26) (.d (.int .i64 1))) [2],om_ 23 27 [3]]) (.cond (.t 23) (.seq (.reg true [oo_ 29 (.fa 0 (.t 2)) [],oo_ 30 (.load false 1 (.t 29)) [0],oo_ 31 (.fa 0 (.t 3)) [],oo_ 32 (.load false 1 (.t
 31)) [2],oo_ 33 (.ix 1 (.t 32) (.d (.int .i64 0))) [3],oo_ 34 (.load false 1 (.t 33)) [4],oo_ 35 (.call 140 [(.t 30),(.t 34)]) [1,5],om_ 28 35 [6],oo_ 36 (.ext (.t 28) 0) [7],oo_ 37 (.ext (.t 28) 1) [7],om_ 7 36
 [8,6,0,1,2,3,4,5,6,7,8],om_ 8 37 [9,10,0,1,2,3,4,5,6,7,8,9,10]]) (.seq (.reg false [om_ 38 7 [],oo_ 39 (.call 141 [(.t 38)]) [0],om_ 40 8 [],oo_ 41 (.bsl 194 1 1 [(.int .u64 0)] [(0,1,(.t 40))]) [2],oo_ 42 (.call 139
 [(.t 41)]) [3,1],on_ (.store 1 (.t 4) (.t 39)) [1,4,0,1],on_ (.store 1 (.t 5) (.t 42)) [4,5,0,1,2,3,4,5],oo_ 6 (.mv (.d (.int .i64 0))) [6,0,1,2,3,4,5,6]]) .ret)) .skip))))))) (.seq (.reg false [oo_ 43 (.load true 1 (.t
 2)) [],oo_ 44 (.load true 1 (.t 3)) [],oo_ 45 (.call 201 [(.t 43),(.t 44)]) [0,1],oo_ 46 (.ext (.t 45) 0) [2],oo_ 47 (.ext (.t 45) 1) [2],oo_ 48 (.ext (.t 45) 2) [2],on_ (.store 1 (.t 4) (.t 46)) [3,2,0,1,2,3,4,5],on_
 (.store 1 (.t 5) (.t 47)) [4,6,0,1,2,3,4,5,6],om_ 6 48 [5,7,0,1,2,3,4,5,6,7]]) .ret)))
theorem o_ar : fnOf Tryz.prog o_ap = some (o_aq, [.cell 4 true 1, .cell 5 true 1, .t 6], 49, false) := by kernel_rfl

abbrev o_as : FuncId := 147
def o_at : C := (.seq (.reg false [oo_ 2 (.box 25 (.t 0)) [],oo_ 3 (.box 25 (.t 1)) [],oo_ 4 (.new 25 [.nilsl]) [],oo_ 5 (.mv (.d (.int .i64 0))) []]) (.seq (.seq (.reg false [oo_ 11 (.load true 1 (.t 2)) [],oo_ 12 (.load true 1 (.t
 3)) [],oo_ 13 (.call 144 [(.t 11),(.t 12)]) [0,1],oo_ 14 (.bin .lss (.t 13) (.d (.int .i64 0))) [2]]) (.cond (.t 14) (.seq (.reg false [oo_ 15 (.build [.nilsl] []) [],on_ (.store 1 (.t 4) (.t 15)) [0,0],oo_ 5 (.mv (.d
 (.int .i64 2))) [1,0,1]]) .ret) .skip)) (.seq (.reg false [oo_ 16 (.fa 0 (.t 2)) [],oo_ 17 (.load false 1 (.t 16)) [0],oo_ 18 (.len (.t 17)) [1],oo_ 19 (.mksl 194 1 8 [(.int .u64 0)] (.t 18) (.t 18)) [2,2],om_ 6 19
 [3,0,1,2,3]]) (.seq (.reg false [oo_ 7 (.mv (.d (.int .u64 0))) []]) (.seq (.seq (.reg false [oo_ 20 (.fa 0 (.t 2)) [],oo_ 21 (.load false 1 (.t 20)) [0],oo_ 22 (.len (.t 21)) [1],oo_ 23 (.mv (.d (.int .i64 0))) []])
 (.block 0 (.loop (.seq (.reg false [oo_ 24 (.bin .lss (.t 23) (.t 22)) []]) (.seq (.cond (.t 24) .skip (.exit 0)) (.seq (.block 1 (.seq (.reg false [om_ 25 23 [],oo_ 26 (.ix 1 (.t 21) (.t 23)) [],oo_ 27 (.load false 1
 (.t 26)) [1],om_ 8 25 [0,0,1,2],om_ 9 27 [2,3,0,1,2,3]]) (.seq (.reg false [oo_ 10 (.mv (.d (.int .u64 0))) []]) (.seq (.seq (.reg false [om_ 28 8 [],oo_ 29 (.fa 0 (.t 3)) [],oo_ 30 (.load false 1 (.t 29)) [1],oo_ 31
 (.len (.t 30)) [2],oo_ 32 (.bin .lss (.t 28) (.t 31)) [0,3]]) (.cond (.t 32) (.reg false [oo_ 33 (.fa 0 (.t 3)) [],oo_ 34 (.load false 1 (.t 33)) [0],om_ 35 8 [],oo_ 36 (.ix 1 (.t 34) (.t 35)) [1,2],oo_ 37 (.load false
 1 (.t 36)) [3],om_ 10 37 [4,0,1,2,3,4]]) .skip)) (.reg false [om_ 39 6 [],om_ 40 8 [],om_ 41 9 [],om_ 42 10 [],om_ 43 7 [],oo_ 44 (.call 202 [(.t 41),(.t 42),(.t 43)]) [2,3,4],om_ 38 44 [5],oo_ 45 (.ext (.t 38) 0)
 [6],oo_ 46 (.ext (.t 38) 1) [6],oo_ 47 (.ix 1 (.t 39) (.t 40)) [0,1,0,1,2,3,4,5,6,7],on_ (.store 1 (.t 47) (.t 45)) [9,7,5,0,1,2,3,4,5,6,7],om_ 7 46 [8,10,0,1,2,3,4,5,6,7,8,9,10]]))))) (.reg false [oo_ 48 (.bin .add (.t
 23) (.d (.int .i64 1))) [],om_ 23 48 [0]]))))))) (.seq (.reg false [om_ 49 6 [],oo_ 50 (.call 141 [(.t 49)]) [0],on_ (.store 1 (.t 4) (.t 50)) [1,1,0,1],oo_ 5 (.mv (.d (.int .i64 0))) [2,0,1,2]]) .ret))))))
theorem o_au : fnOf Tryz.prog o_as = some (o_at, [.cell 4 true 1, .t 5], 51, false) := by kernel_rfl

abbrev o_av : FuncId := 148
def o_aw : C := (.seq (.reg false [oo_ 4 (.mv (.d (.int .u64 0))) [],oo_ 5 (.mv (.d (.int .u64 0))) [0]]) (.seq (.reg false [om_ 14 0 [],oo_ 15 (.bin .and (.t 14) (.d (.int .u64 4294967295))) [0],om_ 6 15 [1,0,1]]) (.seq (.reg false
 [om_ 16 0 [],oo_ 17 (.bin .shr (.t 16) (.d (.int .u64 32))) [0],om_ 7 17 [1,0,1]]) (.seq (.reg false [om_ 18 1 [],oo_ 19 (.bin .and (.t 18) (.d (.int .u64 4294967295))) [0],om_ 8 19 [1,0,1]]) (.seq (.reg false [om_ 20 1
 [],oo_ 21 (.bin .shr (.t 20) (.d (.int .u64 32))) [0],om_ 9 21 [1,0,1]]) (.seq (.reg false [om_ 22 6 [],om_ 23 8 [],oo_ 24 (.bin .mul (.t 22) (.t 23)) [0,1],om_ 10 24 [2,0,1,2]]) (.seq (.reg false [om_ 25 7 [],om_ 26 8
 [],oo_ 27 (.bin .mul (.t 25) (.t 26)) [0,1],om_ 28 10 [],oo_ 29 (.bin .shr (.t 28) (.d (.int .u64 32))) [3],oo_ 30 (.bin .add (.t 27) (.t 29)) [2,4],om_ 11 30 [5,0,1,2,3,4,5]]) (.seq (.reg false [om_ 31 11 [],oo_ 32
 (.bin .and (.t 31) (.d (.int .u64 4294967295))) [0],om_ 12 32 [1,0,1]]) (.seq (.reg false [om_ 33 11 [],oo_ 34 (.bin .shr (.t 33) (.d (.int .u64 32))) [0],om_ 13 34 [1,0,1]]) (.seq (.reg false [om_ 35 12 [],om_ 36 6
 [],om_ 37 9 [],oo_ 38 (.bin .mul (.t 36) (.t 37)) [1,2],oo_ 39 (.bin .add (.t 35) (.t 38)) [0,3],om_ 12 39 [4,0,1,2,3,4]]) (.seq (.reg false [om_ 40 7 [],om_ 41 9 [],oo_ 42 (.bin .mul (.t 40) (.t 41)) [0,1],om_ 43 13
 [],oo_ 44 (.bin .add (.t 42) (.t 43)) [2,3],om_ 45 12 [],oo_ 46 (.bin .shr (.t 45) (.d (.int .u64 32))) [5],oo_ 47 (.bin .add (.t 44) (.t 46)) [4,6],om_ 4 47 [7,0,1,2,3,4,5,6,7]]) (.seq (.reg false [om_ 48 0 [],om_ 49 1
 [],oo_ 50 (.bin .mul (.t 48) (.t 49)) [0,1],om_ 5 50 [2,0,1,2]]) .ret))))))))))))
theorem o_ax : fnOf Tryz.prog o_av = some (o_aw, [.t 4, .t 5], 51, false) := by kernel_rfl

abbrev o_ay : FuncId := 150
def o_az : C := (.seq (.reg false [oo_ 1 (.box 44 (.t 0)) [],oo_ 2 (.mv (.d .nilsl)) []]) (.seq (.seq (.reg false [oo_ 3 (.fa 0 (.t 1)) [],oo_ 4 (.load false 1 (.t 3)) [0],oo_ 5 (.fa 1 (.t 1)) [],oo_ 6 (.load false 1 (.t 5)) [2],oo_ 7
 (.call 155 [(.t 4),(.t 6)]) [1,3],oo_ 8 (.bin .geq (.t 7) (.d (.int .i64 0))) [4]]) (.cond (.t 8) (.seq (.reg false [oo_ 9 (.fa 0 (.t 1)) [],oo_ 10 (.load false 1 (.t 9)) [0],oo_ 11 (.fa 1 (.t 1)) [],oo_ 12 (.load false
 1 (.t 11)) [2],oo_ 13 (.call 203 [(.t 10),(.t 12)]) [1,3],om_ 2 13 [4,4,0,1,2,3,4]]) .ret) .skip)) (.seq (.reg false [oo_ 14 (.fa 1 (.t 1)) [],oo_ 15 (.load false 1 (.t 14)) [0],oo_ 16 (.fa 0 (.t 1)) [],oo_ 17 (.load
 false 1 (.t 16)) [2],oo_ 18 (.call 203 [(.t 15),(.t 17)]) [1,3],om_ 2 18 [4,4,0,1,2,3,4]]) .ret)))
theorem o_b0 : fnOf Tryz.prog o_ay = some (o_az, [.t 2], 19, false) := by kernel_rfl

abbrev o_b1 : FuncId := 151
def o_b2 : C := (.seq (.reg false [oo_ 4 (.mv (.d .nilsl)) []]) (.seq (.block 0 (.loop (.seq (.seq (.reg false [om_ 7 1 [],oo_ 8 (.len (.t 7)) [0],oo_ 9 (.bin .gtr (.t 8) (.d (.int .i64 0))) [1]]) (.cond (.t 9) .skip (.exit 0)))
 (.block 1 (.seq (.reg false [om_ 11 0 [],om_ 12 1 [],oo_ 13 (.call 152 [(.t 11),(.t 12)]) [0,1],om_ 10 13 [2],oo_ 14 (.ext (.t 10) 0) [3],oo_ 15 (.ext (.t 10) 1) [3],om_ 5 14 [4,2,0,1,2,3,4],om_ 6 15
 [5,6,0,1,2,3,4,5,6]]) (.seq (.reg false [om_ 16 1 [],om_ 0 16 [0,0]]) (.reg false [om_ 17 6 [],om_ 1 17 [0,0]]))))))) (.seq (.reg false [om_ 18 0 [],om_ 4 18 [0,0]]) .ret)))
theorem o_b3 : fnOf Tryz.prog o_b1 = some (o_b2, [.t 4], 19, false) := by kernel_rfl

abbrev o_b4 : FuncId := 152
def o_b5 : C := (.seq (.reg false [oo_ 4 (.mv (.d .nilsl)) [],oo_ 5 (.mv (.d .nilsl)) [0]]) (.seq (.reg false [om_ 12 0 [],oo_ 13 (.len (.t 12)) [0],oo_ 14 (.mksl 3 1 8 [(.int .i64 0)] (.t 13) (.t 13)) [1,1],om_ 6 14 [2,0,1,2]]) (.seq
 (.reg false [oo_ 7 (.mv (.d .nilsl)) []]) (.seq (.seq (.reg false [om_ 15 0 [],oo_ 16 (.len (.t 15)) [0],oo_ 17 (.bin .sub (.t 16) (.d (.int .i64 1))) [1],om_ 8 17 [2,0,1,2]]) (.block 0 (.loop (.seq (.seq (.reg false
 [om_ 18 8 [],oo_ 19 (.bin .geq (.t 18) (.d (.int .i64 0))) [0]]) (.cond (.t 19) .skip (.exit 0))) (.seq (.block 1 (.seq (.reg false [om_ 22 0 [],om_ 23 8 [],oo_ 24 (.ix 1 (.t 22) (.t 23)) [0,1],oo_ 25 (.load false 1 (.t
 24)) [2],oo_ 26 (.bsl 3 1 1 [(.int .i64 0)] [(0,1,(.t 25))]) [3],om_ 27 7 [],oo_ 28 (.app 3 1 8 (.t 26) (.t 27)) [4,5],oo_ 29 (.call 158 [(.t 28)]) [6,6],om_ 7 29 [7,7,0,1,2,3,4,5,6,7]]) (.seq (.reg false [oo_ 9 (.mv
 (.d (.int .i64 0))) []]) (.seq (.reg false [oo_ 10 (.mv (.d (.int .i64 10000))) []]) (.seq (.block 2 (.loop (.seq (.seq (.reg false [om_ 30 10 [],om_ 31 9 [],oo_ 32 (.bin .sub (.t 30) (.t 31)) [0,1],oo_ 33 (.bin .gtr
 (.t 32) (.d (.int .i64 1))) [2]]) (.cond (.t 33) .skip (.exit 2))) (.block 3 (.seq (.reg false [om_ 34 9 [],om_ 35 10 [],oo_ 36 (.bin .add (.t 34) (.t 35)) [0,1],oo_ 37 (.bin .quo (.t 36) (.d (.int .i64 2))) [2],om_ 11
 37 [3,0,1,2,3]]) (.seq (.reg false [om_ 38 1 [],om_ 39 11 [],oo_ 40 (.call 80 [(.t 39)]) [1],oo_ 41 (.call 83 [(.t 38),(.t 40)]) [0,2,2],om_ 42 7 [],oo_ 43 (.call 155 [(.t 41),(.t 42)]) [3,4,3],oo_ 44 (.bin .leq (.t 43)
 (.d (.int .i64 0))) [5]]) (.cond (.t 44) (.reg false [om_ 45 11 [],om_ 9 45 [0,0]]) (.reg false [om_ 46 11 [],om_ 10 46 [0,0]])))))))) (.seq (.reg false [om_ 47 6 [],om_ 48 8 [],om_ 49 9 [],oo_ 50 (.ix 1 (.t 47) (.t
 48)) [0,1,0,1,2],on_ (.store 1 (.t 50) (.t 49)) [3,2,0,1,2]]) (.reg false [om_ 51 7 [],om_ 52 1 [],om_ 53 9 [],oo_ 54 (.call 80 [(.t 53)]) [2],oo_ 55 (.call 83 [(.t 52),(.t 54)]) [1,3,3],oo_ 56 (.call 203 [(.t 51),(.t
 55)]) [0,4,4],om_ 7 56 [5,5,0,1,2,3,4,5]]))))))) (.reg false [om_ 20 8 [],oo_ 21 (.bin .sub (.t 20) (.d (.int .i64 1))) [0],om_ 8 21 [1,0,1]])))))) (.seq (.reg false [om_ 57 6 [],oo_ 58 (.call 158 [(.t 57)]) [0],om_ 59
 7 [],om_ 4 58 [1,1,0,1],om_ 5 59 [2,3,0,1,2,3]]) .ret)))))
theorem o_b6 : fnOf Tryz.prog o_b4 = some (o_b5, [.t 4, .t 5], 60, false) := by kernel_rfl

abbrev o_b7 : FuncId := 153
def o_b8 : C := (.seq (.reg false [⟨some 2,.mv (.d (.str ⟨#[]⟩)),none,[]⟩]) (.seq (.seq (.reg false [om_ 7 0 [],oo_ 8 (.len (.t 7)) [0],oo_ 9 (.bin .eql (.t 8) (.d (.int .i64 0))) [1]]) (.cond (.t 9) (.seq (.reg false [⟨some 2,.mv (.d
 (.str ⟨#[48]⟩)),none,[]⟩]) .ret) .skip)) (.seq (.reg false [⟨some 3,.mv (.d (.str ⟨#[]⟩)),none,[]⟩]) (.seq (.seq (.reg false [oo_ 4 (.mv (.d (.int .i64 0))) []]) (.block 0 (.loop (.seq (.seq (.reg false [om_ 10 4 [],om_
 11 0 [],oo_ 12 (.len (.t 11)) [1],oo_ 13 (.bin .lss (.t 10) (.t 12)) [0,2]]) (.cond (.t 13) .skip (.exit 0))) (.seq (.block 1 (.seq (.reg false [om_ 16 0 [],om_ 17 4 [],oo_ 18 (.ix 1 (.t 16) (.t 17)) [0,1],oo_ 19 (.load
 false 1 (.t 18)) [2],om_ 5 19 [3,0,1,2,3]]) (.seq (.reg false [oo_ 6 (.mv (.d (.int .i64 0))) []]) (.block 2 (.loop (.seq (.seq (.reg false [om_ 20 6 [],oo_ 21 (.bin .lss (.t 20) (.d (.int .i64 4))) [0],om_ 22 21
 [1],og_ 23 (.mv (.t 4)) 22 true [2],og_ 24 (.mv (.t 0)) 22 true [2],og_ 25 (.len (.t 24)) 22 true [4,2],og_ 26 (.bin .sub (.t 25) (.d (.int .i64 1))) 22 true [5,2],og_ 27 (.bin .lss (.t 23) (.t 26)) 22 true [3,6,2],og_
 28 (.mv (.t 27)) 22 true [7,2,2],og_ 29 (.mv (.t 5)) 28 false [8],og_ 30 (.bin .gtr (.t 29) (.d (.int .i64 0))) 28 false [9,8],og_ 31 (.pick (.t 28) (.d (.bool true)) (.t 30)) 22 true [8,10,2],oo_ 32 (.pick (.t 22) (.t
 31) (.d (.bool false))) [2,11]]) (.cond (.t 32) .skip (.exit 2))) (.seq (.block 3 (.seq (.reg false [om_ 35 5 [],oo_ 36 (.bin .rem (.t 35) (.d (.int .i64 10))) [0],oo_ 37 (.bin .add (.d (.int .i64 48)) (.t 36)) [1],oo_
 38 (.conv .u8 (.t 37)) [2],oo_ 39 (.bsl 5 1 1 [(.int .u8 0)] [(0,1,(.t 38))]) [3],oo_ 40 (.bstr (.t 39)) [4],om_ 41 3 [],oo_ 42 (.bin .add (.t 40) (.t 41)) [5,6],om_ 3 42 [7,0,1,2,3,4,5,6,7]]) (.reg false [om_ 43 5
 [],oo_ 44 (.bin .quo (.t 43) (.d (.int .i64 10))) [0],om_ 5 44 [1,0,1]]))) (.reg false [om_ 33 6 [],oo_ 34 (.bin .add (.t 33) (.d (.int .i64 1))) [0],om_ 6 34 [1,0,1]])))))))) (.reg false [om_ 14 4 [],oo_ 15 (.bin .add
 (.t 14) (.d (.int .i64 1))) [0],om_ 4 15 [1,0,1]])))))) (.seq (.reg false [om_ 45 3 [],om_ 2 45 [0,0]]) .ret)))))
theorem o_b9 : fnOf Tryz.prog o_b7 = some (o_b8, [.t 2], 46, false) := by kernel_rfl

abbrev o_ba : FuncId := 154
def o_bb : C := (.seq (.reg false [oo_ 1 (.box 44 (.t 0)) [],oo_ 2 (.mv (.d (.bool false))) []]) (.seq (.reg false [oo_ 3 (.fa 0 (.t 1)) [],oo_ 4 (.load false 1 (.t 3)) [0],oo_ 5 (.fa 1 (.t 1)) [],oo_ 6 (.load false 1 (.t 5)) [2],oo_ 7
 (.call 155 [(.t 4),(.t 6)]) [1,3],oo_ 8 (.bin .lss (.t 7) (.d (.int .i64 0))) [4],om_ 2 8 [5,4,0,1,2,3,4,5]]) .ret))
theorem o_bc : fnOf Tryz.prog o_ba = some (o_bb, [.t 2], 9, false) := by kernel_rfl

abbrev o_bd : FuncId := 155
def o_be : C := (.seq (.reg false [oo_ 4 (.mv (.d (.int .i64 0))) []]) (.seq (.seq (.reg false [om_ 6 0 [],oo_ 7 (.len (.t 6)) [0],om_ 8 1 [],oo_ 9 (.len (.t 8)) [2],oo_ 10 (.bin .neq (.t 7) (.t 9)) [1,3]]) (.cond (.t 10) (.seq (.seq
 (.reg false [om_ 11 0 [],oo_ 12 (.len (.t 11)) [0],om_ 13 1 [],oo_ 14 (.len (.t 13)) [2],oo_ 15 (.bin .lss (.t 12) (.t 14)) [1,3]]) (.cond (.t 15) (.seq (.reg false [oo_ 4 (.mv (.d (.int .i64 (-1)))) []]) .ret) .skip))
 (.seq (.reg false [oo_ 4 (.mv (.d (.int .i64 1))) []]) .ret)) .skip)) (.seq (.seq (.reg false [om_ 16 0 [],oo_ 17 (.len (.t 16)) [0],oo_ 18 (.bin .sub (.t 17) (.d (.int .i64 1))) [1],om_ 5 18 [2,0,1,2]]) (.block 0
 (.loop (.seq (.seq (.reg false [om_ 19 5 [],oo_ 20 (.bin .geq (.t 19) (.d (.int .i64 0))) [0]]) (.cond (.t 20) .skip (.exit 0))) (.seq (.block 1 (.seq (.seq (.reg true [om_ 23 0 [],om_ 24 5 [],oo_ 25 (.ix 1 (.t 23) (.t
 24)) [0,1],oo_ 26 (.load false 1 (.t 25)) [2],om_ 27 1 [],om_ 28 5 [],oo_ 29 (.ix 1 (.t 27) (.t 28)) [4,5],oo_ 30 (.load false 1 (.t 29)) [6],oo_ 31 (.bin .lss (.t 26) (.t 30)) [3,7]]) (.cond (.t 31) (.seq (.reg false
 [oo_ 4 (.mv (.d (.int .i64 (-1)))) []]) .ret) .skip)) (.seq (.reg true [om_ 32 0 [],om_ 33 5 [],oo_ 34 (.ix 1 (.t 32) (.t 33)) [0,1],oo_ 35 (.load false 1 (.t 34)) [2],om_ 36 1 [],om_ 37 5 [],oo_ 38 (.ix 1 (.t 36) (.t
 37)) [4,5],oo_ 39 (.load false 1 (.t 38)) [6],oo_ 40 (.bin .gtr (.t 35) (.t 39)) [3,7]]) (.cond (.t 40) (.seq (.reg false [oo_ 4 (.mv (.d (.int .i64 1))) []]) .ret) .skip)))) (.reg false [om_ 21 5 [],oo_ 22 (.bin .sub
 (.t 21) (.d (.int .i64 1))) [0],om_ 5 22 [1,0,1]])))))) (.seq (.reg false [oo_ 4 (.mv (.d (.int .i64 0))) []]) .ret))))
theorem o_bf : fnOf Tryz.prog o_bd = some (o_be, [.t 4], 41, false) := by kernel_rfl

abbrev o_bg : FuncId := 156
def o_bh : C := (.seq (.reg false [oo_ 2 (.box 44 (.t 0)) [],oo_ 4 (.new 46 [.nilsl,.nilsl,.nilsl]) []]) (.seq (.reg false [oo_ 5 (.load true 2 (.t 2)) [],om_ 6 1 [],oo_ 7 (.build [.nilsl,.nilsl,.nilsl] [(0,2,(.t 5)),(2,1,(.t 6))])
 [0,1],on_ (.store 3 (.t 4) (.t 7)) [2,0,1,2]]) .ret))
theorem o_bi : fnOf Tryz.prog o_bg = some (o_bh, [.cell 4 true 3], 8, false) := by kernel_rfl

abbrev o_bj : FuncId := 157
def o_bk : C := (.seq (.reg false [oo_ 2 (.new 44 [.nilsl,.nilsl]) []]) (.seq (.seq (.reg false [om_ 3 0 [],oo_ 4 (.bin .geq (.t 3) (.d (.int .i64 0))) [0]]) (.cond (.t 4) (.seq (.reg false [om_ 5 0 [],oo_ 6 (.conv .u64 (.t 5)) [0],oo_
 7 (.bsl 194 1 1 [(.int .u64 0)] [(0,1,(.t 6))]) [1],oo_ 8 (.call 204 [(.t 7)]) [2],oo_ 9 (.build [.nilsl,.nilsl] [(0,1,(.t 8))]) [3],on_ (.store 2 (.t 2) (.t 9)) [4,3,0,1,2,3,4]]) .ret) .skip)) (.seq (.reg false [om_ 10
 0 [],oo_ 11 (.bin .add (.t 10) (.d (.int .i64 1))) [0],oo_ 12 (.un .neg (.t 11)) [1],oo_ 13 (.conv .u64 (.t 12)) [2],oo_ 14 (.bin .add (.t 13) (.d (.int .u64 1))) [3],oo_ 15 (.bsl 194 1 1 [(.int .u64 0)] [(0,1,(.t
 14))]) [4],oo_ 16 (.call 204 [(.t 15)]) [5],oo_ 17 (.build [.nilsl,.nilsl] [(1,1,(.t 16))]) [6],on_ (.store 2 (.t 2) (.t 17)) [7,6,0,1,2,3,4,5,6,7]]) .ret)))
theorem o_bl : fnOf Tryz.prog o_bj = some (o_bk, [.cell 2 true 2], 18, false) := by kernel_rfl

abbrev o_bm : FuncId := 158
def o_bn : C := (.seq (.reg false [oo_ 2 (.mv (.d .nilsl)) []]) (.seq (.reg false [om_ 4 0 [],oo_ 5 (.len (.t 4)) [0],om_ 3 5 [1,0,1]]) (.seq (.block 0 (.loop (.seq (.seq (.reg false [om_ 6 3 [],oo_ 7 (.bin .gtr (.t 6) (.d (.int .i64
 0))) [0],om_ 8 7 [1],og_ 9 (.mv (.t 0)) 8 true [2],og_ 10 (.mv (.t 3)) 8 true [2],og_ 11 (.bin .sub (.t 10) (.d (.int .i64 1))) 8 true [4,2],og_ 12 (.ix 1 (.t 9) (.t 11)) 8 true [3,5,2],og_ 13 (.load false 1 (.t 12)) 8
 true [6,2],og_ 14 (.bin .eql (.t 13) (.d (.int .i64 0))) 8 true [7,2],oo_ 15 (.pick (.t 8) (.t 14) (.d (.bool false))) [2,8]]) (.cond (.t 15) .skip (.exit 0))) (.block 1 (.reg false [om_ 16 3 [],oo_ 17 (.bin .sub (.t
 16) (.d (.int .i64 1))) [0],om_ 3 17 [1,0,1]]))))) (.seq (.reg false [om_ 18 0 [],om_ 19 3 [],oo_ 20 (.slice 1 (.t 18) none (some (.t 19)) none) [0,1],om_ 2 20 [2,0,1,2]]) .ret))))
theorem o_bo : fnOf Tryz.prog o_bm = some (o_bn, [.t 2], 21, false) := by kernel_rfl

abbrev o_bp : FuncId := 191
def o_bq : C := (.seq (.reg false [oo_ 1 (.box 25 (.t 0)) [],oo_ 2 (.mv (.d (.int .i64 0))) []]) (.seq (.reg false [oo_ 4 (.fa 0 (.t 1)) [],oo_ 5 (.load false 1 (.t 4)) [0],oo_ 6 (.len (.t 5)) [1],om_ 3 6 [2,0,1,2]]) (.seq (.seq (.reg
 false [om_ 7 3 [],oo_ 8 (.bin .eql (.t 7) (.d (.int .i64 0))) [0]]) (.cond (.t 8) (.seq (.reg false [oo_ 2 (.mv (.d (.int .i64 0))) []]) .ret) .skip)) (.seq (.reg false [om_ 9 3 [],oo_ 10 (.bin .sub (.t 9) (.d (.int
 .i64 1))) [0],oo_ 11 (.bin .mul (.d (.int .i64 64)) (.t 10)) [1],oo_ 12 (.fa 0 (.t 1)) [],oo_ 13 (.load false 1 (.t 12)) [3],om_ 14 3 [],oo_ 15 (.bin .sub (.t 14) (.d (.int .i64 1))) [5],oo_ 16 (.ix 1 (.t 13) (.t 15))
 [4,6],oo_ 17 (.load false 1 (.t 16)) [7],oo_ 18 (.call 206 [(.t 17)]) [8],oo_ 19 (.bin .add (.t 11) (.t 18)) [2,9],om_ 2 19 [10,9,0,1,2,3,4,5,6,7,8,9,10]]) .ret))))
theorem o_br : fnOf Tryz.prog o_bp = some (o_bq, [.t 2], 20, false) := by kernel_rfl

abbrev o_bs : FuncId := 192
def o_bt : C := (.seq (.reg false [oo_ 2 (.mv (.d .nilsl)) []]) (.seq (.seq (.reg false [om_ 3 0 [],oo_ 4 (.snl false (.t 3)) [0]]) (.cond (.t 4) (.seq (.reg false [oo_ 2 (.mv (.d .nilsl)) []]) .ret) .skip)) (.seq (.reg false [oo_ 5
 (.bsl0) [],om_ 6 0 [],oo_ 7 (.app 194 1 8 (.t 5) (.t 6)) [0,1],om_ 2 7 [2,2,0,1,2]]) .ret)))
theorem o_bu : fnOf Tryz.prog o_bs = some (o_bt, [.t 2], 8, false) := by kernel_rfl

abbrev o_bv : FuncId := 193
def o_bw : C := (.seq (.reg false [oo_ 6 (.mv (.d (.int .u64 0))) [],oo_ 7 (.mv (.d (.int .u64 0))) [0]]) (.seq (.seq (.reg false [om_ 19 2 [],oo_ 20 (.bin .eql (.t 19) (.d (.int .u64 0))) [0]]) (.cond (.t 20) (.reg false [oo_ 21
 (.load false 1 .bad) [],on_ (.bad) [0]]) .skip)) (.seq (.seq (.reg false [om_ 22 2 [],om_ 23 0 [],oo_ 24 (.bin .leq (.t 22) (.t 23)) [0,1]]) (.cond (.t 24) (.reg false [oo_ 25 (.load false 1 .bad) [],on_ (.bad) [0]])
 .skip)) (.seq (.seq (.reg false [om_ 26 0 [],oo_ 27 (.bin .eql (.t 26) (.d (.int .u64 0))) [0]]) (.cond (.t 27) (.seq (.reg true [om_ 28 1 [],om_ 29 2 [],oo_ 30 (.bin .quo (.t 28) (.t 29)) [0,1],om_ 31 1 [],om_ 32 2
 [],oo_ 33 (.bin .rem (.t 31) (.t 32)) [3,4],om_ 6 30 [2,0,1,2],om_ 7 33 [5,6,0,1,2,3,4,5,6]]) .ret) .skip)) (.seq (.reg false [om_ 34 2 [],oo_ 35 (.call 225 [(.t 34)]) [0],oo_ 36 (.conv .u64 (.t 35)) [1],om_ 8 36
 [2,1,0,1,2]]) (.seq (.reg false [om_ 37 2 [],om_ 38 8 [],oo_ 39 (.bin .shl (.t 37) (.t 38)) [0,1],om_ 2 39 [2,0,1,2]]) (.seq (.reg false [om_ 40 2 [],oo_ 41 (.bin .shr (.t 40) (.d (.int .u64 32))) [0],om_ 9 41 [1,0,1]])
 (.seq (.reg false [om_ 42 2 [],oo_ 43 (.bin .and (.t 42) (.d (.int .u64 4294967295))) [0],om_ 10 43 [1,0,1]]) (.seq (.reg false [om_ 44 0 [],om_ 45 8 [],oo_ 46 (.bin .shl (.t 44) (.t 45)) [0,1],om_ 47 1 [],om_ 48 8
 [],oo_ 49 (.bin .sub (.d (.int .u64 64)) (.t 48)) [4],oo_ 50 (.bin .shr (.t 47) (.t 49)) [3,5],oo_ 51 (.bin .or (.t 46) (.t 50)) [2,6],om_ 11 51 [7,0,1,2,3,4,5,6,7]]) (.seq (.reg false [om_ 52 1 [],om_ 53 8 [],oo_ 54
 (.bin .shl (.t 52) (.t 53)) [0,1],om_ 12 54 [2,0,1,2]]) (.seq (.reg false [om_ 55 12 [],oo_ 56 (.bin .shr (.t 55) (.d (.int .u64 32))) [0],om_ 13 56 [1,0,1]]) (.seq (.reg false [om_ 57 12 [],oo_ 58 (.bin .and (.t 57)
 (.d (.int .u64 4294967295))) [0],om_ 14 58 [1,0,1]]) (.seq (.reg false [om_ 59 11 [],om_ 60 9 [],oo_ 61 (.bin .quo (.t 59) (.t 60)) [0,1],om_ 15 61 [2,0,1,2]]) (.seq (.reg false [om_ 62 11 [],om_ 63 15 [],om_ 64 9
 [],oo_ 65 (.bin .mul (.t 63) (.t 64)) [1,2],oo_ 66 (.bin .sub (.t 62) (.t 65)) [0,3],om_ 16 66 [4,0,1,2,3,4]]) (.seq (.block 0 (.loop (.seq (.seq (.reg false [om_ 67 15 [],oo_ 68 (.bin .geq (.t 67) (.d (.int .u64
 4294967296))) [0],om_ 69 68 [1],og_ 70 (.mv (.t 15)) 69 false [2],og_ 71 (.mv (.t 10)) 69 false [2],og_ 72 (.bin .mul (.t 70) (.t 71)) 69 false [3,4,2],og_ 73 (.mv (.t 16)) 69 false [2],og_ 74 (.bin .mul (.d (.int .u64
 4294967296)) (.t 73)) 69 false [6,2],og_ 75 (.mv (.t 13)) 69 false [2],og_ 76 (.bin .add (.t 74) (.t 75)) 69 false [7,8,2],og_ 77 (.bin .gtr (.t 72) (.t 76)) 69 false [5,9,2],oo_ 78 (.pick (.t 69) (.d (.bool true)) (.t
 77)) [2,10]]) (.cond (.t 78) .skip (.exit 0))) (.block 1 (.seq (.reg false [om_ 79 15 [],oo_ 80 (.bin .sub (.t 79) (.d (.int .u64 1))) [0],om_ 15 80 [1,0,1]]) (.seq (.reg false [om_ 81 16 [],om_ 82 9 [],oo_ 83 (.bin
 .add (.t 81) (.t 82)) [0,1],om_ 16 83 [2,0,1,2]]) (.seq (.reg false [om_ 84 16 [],oo_ 85 (.bin .geq (.t 84) (.d (.int .u64 4294967296))) [0]]) (.cond (.t 85) (.exit 0) .skip)))))))) (.seq (.reg false [om_ 86 11 [],oo_
 87 (.bin .mul (.t 86) (.d (.int .u64 4294967296))) [0],om_ 88 13 [],oo_ 89 (.bin .add (.t 87) (.t 88)) [1,2],om_ 90 15 [],om_ 91 2 [],oo_ 92 (.bin .mul (.t 90) (.t 91)) [4,5],oo_ 93 (.bin .sub (.t 89) (.t 92)) [3,6],om_
 17 93 [7,0,1,2,3,4,5,6,7]]) (.seq (.reg false [om_ 94 17 [],om_ 95 9 [],oo_ 96 (.bin .quo (.t 94) (.t 95)) [0,1],om_ 18 96 [2,0,1,2]]) (.seq (.reg false [om_ 97 17 [],om_ 98 18 [],om_ 99 9 [],oo_ 100 (.bin .mul (.t 98)
 (.t 99)) [1,2],oo_ 101 (.bin .sub (.t 97) (.t 100)) [0,3],om_ 16 101 [4,0,1,2,3,4]]) (.seq (.block 2 (.loop (.seq (.seq (.reg false [om_ 102 18 [],oo_ 103 (.bin .geq (.t 102) (.d (.int .u64 4294967296))) [0],om_ 104 103
 [1],og_ 105 (.mv (.t 18)) 104 false [2],og_ 106 (.mv (.t 10)) 104 false [2],og_ 107 (.bin .mul (.t 105) (.t 106)) 104 false [3,4,2],og_ 108 (.mv (.t 16)) 104 false [2],og_ 109 (.bin .mul (.d (.int .u64 4294967296)) (.t
 108)) 104 false [6,2],og_ 110 (.mv (.t 14)) 104 false [2],og_ 111 (.bin .add (.t 109) (.t 110)) 104 false [7,8,2],og_ 112 (.bin .gtr (.t 107) (.t 111)) 104 false [5,9,2],oo_ 113 (.pick (.t 104) (.d (.bool true)) (.t
 112)) [2,10]]) (.cond (.t 113) .skip (.exit 2))) (.block 3 (.seq (.reg false [om_ 114 18 [],oo_ 115 (.bin .sub (.t 114) (.d (.int .u64 1))) [0],om_ 18 115 [1,0,1]]) (.seq (.reg false [om_ 116 16 [],om_ 117 9 [],oo_ 118
 (.bin .add (.t 116) (.t 117)) [0,1],om_ 16 118 [2,0,1,2]]) (.seq (.reg false [om_ 119 16 [],oo_ 120 (.bin .geq (.t 119) (.d (.int .u64 4294967296))) [0]]) (.cond (.t 120) (.exit 2) .skip)))))))) (.seq (.reg false [om_
 121 15 [],oo_ 122 (.bin .mul (.t 121) (.d (.int .u64 4294967296))) [0],om_ 123 18 [],oo_ 124 (.bin .add (.t 122) (.t 123)) [1,2],om_ 125 17 [],oo_ 126 (.bin .mul (.t 125) (.d (.int .u64 4294967296))) [4],om_ 127 14
 [],oo_ 128 (.bin .add (.t 126) (.t 127)) [5,6],om_ 129 18 [],om_ 130 2 [],oo_ 131 (.bin .mul (.t 129) (.t 130)) [8,9],oo_ 132 (.bin .sub (.t 128) (.t 131)) [7,10],om_ 133 8 [],oo_ 134 (.bin .shr (.t 132) (.t 133))
 [11,12],om_ 6 124 [3,0,1,2,3],om_ 7 134 [13,14,0,1,2,3,4,5,6,7,8,9,10,11,12,13,14]]) .ret))))))))))))))))))))
theorem o_bx : fnOf Tryz.prog o_bv = some (o_bw, [.t 6, .t 7], 135, false) := by kernel_rfl

abbrev o_by : FuncId := 194
def o_bz : C := (.seq (.reg false [⟨some 4,.mv (.d (.str ⟨#[]⟩)),none,[]⟩]) (.seq (.seq (.reg false [om_ 9 1 [],oo_ 10 (.bin .eql (.t 9) (.d (.int .i64 10))) [0]]) (.cond (.t 10) (.seq (.seq (.reg false [om_ 11 0 [],oo_ 12 (.bin .lss
 (.t 11) (.d (.int .u64 100))) [0]]) (.cond (.t 12) (.seq (.reg false [om_ 13 0 [],oo_ 14 (.conv .i64 (.t 13)) [0],oo_ 15 (.call 226 [(.t 14)]) [1],om_ 4 15 [2,2,0,1,2]]) .ret) .skip)) (.seq (.reg false [oo_ 5 (.new 275
 [(.int .u8 0),(.int .u8 0),(.int .u8 0),(.int .u8 0),(.int .u8 0),(.int .u8 0),(.int .u8 0),(.int .u8 0),(.int .u8 0),(.int .u8 0),(.int .u8 0),(.int .u8 0),(.int .u8 0),(.int .u8 0),(.int .u8 0),(.int .u8 0),(.int .u8
 0),(.int .u8 0),(.int .u8 0),(.int .u8 0),(.int .u8 0),(.int .u8 0),(.int .u8 0),(.int .u8 0)]) []]) (.seq (.reg false [om_ 16 0 [],oo_ 17 (.call 227 [(.t 16)]) [0],om_ 6 17 [1,1,0,1]]) (.seq (.reg false [om_ 18 6
 [],oo_ 19 (.sla 24 1 (.t 5) none (some (.t 18))) [0],om_ 20 0 [],oo_ 21 (.call 228 [(.t 19),(.t 20)]) [1,2]]) (.seq (.reg false [om_ 22 6 [],oo_ 23 (.sla 24 1 (.t 5) none (some (.t 22))) [0],oo_ 24 (.bstr (.t 23))
 [1],om_ 4 24 [2,0,1,2]]) .ret))))) .skip)) (.seq (.reg false [om_ 26 0 [],om_ 27 1 [],oo_ 28 (.call 229 [(.d .nilsl),(.t 26),(.t 27),(.d (.bool false)),(.d (.bool false))]) [0,1],om_ 25 28 [2],oo_ 29 (.ext (.t 25) 0)
 [3],oo_ 30 (.ext (.t 25) 1) [3],om_ 7 29 [4,2,0,1,2,3,4],om_ 8 30 [5,6,0,1,2,3,4,5,6]]) (.seq (.reg false [om_ 31 8 [],om_ 4 31 [0,0]]) .ret))))
theorem o_c0 : fnOf Tryz.prog o_by = some (o_bz, [.t 4], 32, false) := by kernel_rfl

abbrev o_c1 : FuncId := 195
def o_c2 : C := (.seq (.reg false [oo_ 4 (.mv (.d (.int .u64 0))) [],oo_ 5 (.mv (.d (.int .u64 0))) [0]]) (.seq (.cond (.d (.bool false)) (.seq (.reg false [om_ 11 0 [],oo_ 12 (.conv .u32 (.t 11)) [0],om_ 13 1 [],oo_ 14 (.conv .u32 (.t
 13)) [2],oo_ 15 (.call 230 [(.t 12),(.t 14)]) [1,3],om_ 10 15 [4],oo_ 16 (.ext (.t 10) 0) [5],oo_ 17 (.ext (.t 10) 1) [5],om_ 6 16 [6,4,0,1,2,3,4,5,6],om_ 7 17 [7,8,0,1,2,3,4,5,6,7,8]]) (.seq (.reg false [om_ 18 6
 [],oo_ 19 (.conv .u64 (.t 18)) [0],om_ 20 7 [],oo_ 21 (.conv .u64 (.t 20)) [2],om_ 4 19 [1,0,1],om_ 5 21 [3,4,0,1,2,3,4]]) .ret)) .skip) (.seq (.reg false [om_ 23 0 [],om_ 24 1 [],oo_ 25 (.call 148 [(.t 23),(.t 24)])
 [0,1],om_ 22 25 [2],oo_ 26 (.ext (.t 22) 0) [3],oo_ 27 (.ext (.t 22) 1) [3],om_ 8 26 [4,2,0,1,2,3,4],om_ 9 27 [5,6,0,1,2,3,4,5,6]]) (.seq (.reg false [om_ 28 8 [],om_ 29 9 [],om_ 4 28 [0,0],om_ 5 29 [1,2,0,1,2]])
 .ret))))
theorem o_c3 : fnOf Tryz.prog o_c1 = some (o_c2, [.t 4, .t 5], 30, false) := by kernel_rfl

abbrev o_c4 : FuncId := 196
def o_c5 : C := (.seq (.reg false [oo_ 4 (.mv (.d (.bool false))) []]) (.seq (.reg false [om_ 5 0 [],om_ 6 1 [],oo_ 7 (.call 231 [(.t 5),(.t 6)]) [0,1],om_ 4 7 [2,2,0,1,2]]) .ret))
theorem o_c6 : fnOf Tryz.prog o_c4 = some (o_c5, [.t 4], 8, false) := by kernel_rfl

abbrev o_c7 : FuncId := 201
def o_c8 : C := (.seq (.reg false [oo_ 2 (.box 25 (.t 0)) [],oo_ 3 (.box 25 (.t 1)) [],oo_ 4 (.new 25 [.nilsl]) [],oo_ 5 (.new 25 [.nilsl]) [],oo_ 6 (.mv (.d (.int .i64 0))) []]) (.seq (.reg false [oo_ 13 (.fa 0 (.t 3)) [],oo_ 14
 (.load false 1 (.t 13)) [0],oo_ 15 (.len (.t 14)) [1],om_ 7 15 [2,0,1,2]]) (.seq (.reg false [oo_ 16 (.fa 0 (.t 3)) [],oo_ 17 (.load false 1 (.t 16)) [0],om_ 18 7 [],oo_ 19 (.bin .sub (.t 18) (.d (.int .i64 1))) [2],oo_
 20 (.ix 1 (.t 17) (.t 19)) [1,3],oo_ 21 (.load false 1 (.t 20)) [4],oo_ 22 (.call 225 [(.t 21)]) [5],om_ 8 22 [6,6,0,1,2,3,4,5,6]]) (.seq (.reg false [oo_ 23 (.fa 0 (.t 3)) [],oo_ 24 (.load false 1 (.t 23)) [0],om_ 25 8
 [],oo_ 26 (.call 234 [(.t 24),(.t 25)]) [1,2],om_ 27 7 [],oo_ 28 (.slice 1 (.t 26) none (some (.t 27)) none) [3,4],om_ 9 28 [5,3,0,1,2,3,4,5]]) (.seq (.reg false [oo_ 29 (.fa 0 (.t 2)) [],oo_ 30 (.load false 1 (.t 29))
 [0],om_ 31 8 [],oo_ 32 (.call 234 [(.t 30),(.t 31)]) [1,2],om_ 10 32 [3,3,0,1,2,3]]) (.seq (.reg false [om_ 33 10 [],oo_ 34 (.len (.t 33)) [0],om_ 35 7 [],oo_ 36 (.bin .sub (.t 34) (.t 35)) [1,2],oo_ 37 (.mksl 194 1 8
 [(.int .u64 0)] (.t 36) (.t 36)) [3,3],om_ 11 37 [4,0,1,2,3,4]]) (.seq (.seq (.reg false [om_ 38 11 [],oo_ 39 (.len (.t 38)) [0],oo_ 40 (.bin .sub (.t 39) (.d (.int .i64 1))) [1],om_ 12 40 [2,0,1,2]]) (.block 0 (.loop
 (.seq (.seq (.reg false [om_ 41 12 [],oo_ 42 (.bin .geq (.t 41) (.d (.int .i64 0))) [0]]) (.cond (.t 42) .skip (.exit 0))) (.seq (.block 1 (.reg false [om_ 45 11 [],om_ 46 12 [],om_ 47 10 [],om_ 48 12 [],om_ 49 12
 [],om_ 50 7 [],oo_ 51 (.bin .add (.t 49) (.t 50)) [4,5],oo_ 52 (.bin .add (.t 51) (.d (.int .i64 1))) [6],oo_ 53 (.slice 1 (.t 47) (some (.t 48)) (some (.t 52)) none) [2,3,7],om_ 54 9 [],oo_ 55 (.call 235 [(.t 53),(.t
 54)]) [8,9],oo_ 56 (.ix 1 (.t 45) (.t 46)) [0,1,0,1,2,3,4,5,6,7,8,9,10],on_ (.store 1 (.t 56) (.t 55)) [11,10,10,0,1,2,3,4,5,6,7,8,9,10]])) (.reg false [om_ 43 12 [],oo_ 44 (.bin .sub (.t 43) (.d (.int .i64 1))) [0],om_
 12 44 [1,0,1]])))))) (.seq (.reg true [om_ 57 11 [],oo_ 58 (.call 141 [(.t 57)]) [0],om_ 59 10 [],om_ 60 7 [],oo_ 61 (.slice 1 (.t 59) none (some (.t 60)) none) [2,3],oo_ 62 (.call 141 [(.t 61)]) [4,1],om_ 63 8 [],oo_
 64 (.call 236 [(.t 62),(.t 63)]) [5,6,5],on_ (.store 1 (.t 4) (.t 58)) [1,7,0,1],on_ (.store 1 (.t 5) (.t 64)) [7,8,0,1,2,3,4,5,6,7,8],oo_ 6 (.mv (.d (.int .i64 0))) [9,0,1,2,3,4,5,6,7,8,9]]) .ret))))))))
theorem o_c9 : fnOf Tryz.prog o_c7 = some (o_c8, [.cell 4 true 1, .cell 5 true 1, .t 6], 65, false) := by kernel_rfl

abbrev o_ca : FuncId := 203
def o_cb : C := (.seq (.reg false [oo_ 4 (.mv (.d .nilsl)) []]) (.seq (.reg false [oo_ 5 (.mv (.d .nilsl)) []]) (.seq (.reg false [oo_ 6 (.mv (.d (.int .i64 0))) []]) (.seq (.seq (.reg false [oo_ 7 (.mv (.d (.int .i64 0))) []]) (.block
 0 (.loop (.seq (.seq (.reg false [om_ 9 7 [],om_ 10 0 [],oo_ 11 (.len (.t 10)) [1],oo_ 12 (.bin .lss (.t 9) (.t 11)) [0,2]]) (.cond (.t 12) .skip (.exit 0))) (.seq (.block 1 (.seq (.reg false [om_ 15 0 [],om_ 16 7
 [],oo_ 17 (.ix 1 (.t 15) (.t 16)) [0,1],oo_ 18 (.load false 1 (.t 17)) [2],om_ 19 6 [],oo_ 20 (.bin .sub (.t 18) (.t 19)) [3,4],om_ 8 20 [5,0,1,2,3,4,5]]) (.seq (.seq (.reg false [om_ 21 7 [],om_ 22 1 [],oo_ 23 (.len
 (.t 22)) [1],oo_ 24 (.bin .lss (.t 21) (.t 23)) [0,2]]) (.cond (.t 24) (.reg false [om_ 25 8 [],om_ 26 1 [],om_ 27 7 [],oo_ 28 (.ix 1 (.t 26) (.t 27)) [1,2],oo_ 29 (.load false 1 (.t 28)) [3],oo_ 30 (.bin .sub (.t 25)
 (.t 29)) [0,4],om_ 8 30 [5,0,1,2,3,4,5]]) .skip)) (.seq (.reg false [oo_ 6 (.mv (.d (.int .i64 0))) []]) (.seq (.seq (.reg false [om_ 31 8 [],oo_ 32 (.bin .lss (.t 31) (.d (.int .i64 0))) [0]]) (.cond (.t 32) (.seq
 (.reg false [om_ 33 8 [],oo_ 34 (.bin .add (.t 33) (.d (.int .i64 10000))) [0],om_ 8 34 [1,0,1]]) (.reg false [oo_ 6 (.mv (.d (.int .i64 1))) []])) .skip)) (.reg false [om_ 35 5 [],om_ 36 8 [],oo_ 37 (.bsl 3 1 1 [(.int
 .i64 0)] [(0,1,(.t 36))]) [1],oo_ 38 (.app 3 1 8 (.t 35) (.t 37)) [0,2],om_ 5 38 [3,3,0,1,2,3]])))))) (.reg false [om_ 13 7 [],oo_ 14 (.bin .add (.t 13) (.d (.int .i64 1))) [0],om_ 7 14 [1,0,1]])))))) (.seq (.reg false
 [om_ 39 5 [],oo_ 40 (.call 158 [(.t 39)]) [0],om_ 4 40 [1,1,0,1]]) .ret)))))
theorem o_cc : fnOf Tryz.prog o_ca = some (o_cb, [.t 4], 41, false) := by kernel_rfl

abbrev o_cd : FuncId := 204
def o_ce : C := (.seq (.reg false [oo_ 2 (.mv (.d .nilsl)) []]) (.seq (.reg false [oo_ 3 (.mv (.d .nilsl)) []]) (.seq (.reg false [oo_ 8 (.call 80 [(.d (.int .i64 4294967296))]) [],oo_ 9 (.call 80 [(.d (.int .i64 4294967296))]) [0],oo_
 10 (.call 83 [(.t 8),(.t 9)]) [0,1,1],om_ 4 10 [2,2,0,1,2]]) (.seq (.seq (.reg false [om_ 11 0 [],oo_ 12 (.len (.t 11)) [0],oo_ 13 (.bin .sub (.t 12) (.d (.int .i64 1))) [1],om_ 5 13 [2,0,1,2]]) (.block 0 (.loop (.seq
 (.seq (.reg false [om_ 14 5 [],oo_ 15 (.bin .geq (.t 14) (.d (.int .i64 0))) [0]]) (.cond (.t 15) .skip (.exit 0))) (.seq (.block 1 (.seq (.reg false [om_ 18 0 [],om_ 19 5 [],oo_ 20 (.ix 1 (.t 18) (.t 19)) [0,1],oo_ 21
 (.load false 1 (.t 20)) [2],oo_ 22 (.bin .quo (.t 21) (.d (.int .u64 4294967296))) [3],oo_ 23 (.conv .i64 (.t 22)) [4],oo_ 24 (.call 80 [(.t 23)]) [5],om_ 6 24 [6,6,0,1,2,3,4,5,6]]) (.seq (.reg false [om_ 25 0 [],om_ 26
 5 [],oo_ 27 (.ix 1 (.t 25) (.t 26)) [0,1],oo_ 28 (.load false 1 (.t 27)) [2],oo_ 29 (.bin .rem (.t 28) (.d (.int .u64 4294967296))) [3],oo_ 30 (.conv .i64 (.t 29)) [4],oo_ 31 (.call 80 [(.t 30)]) [5],om_ 7 31
 [6,6,0,1,2,3,4,5,6]]) (.reg false [om_ 32 3 [],om_ 33 4 [],oo_ 34 (.call 83 [(.t 32),(.t 33)]) [0,1],om_ 35 6 [],oo_ 36 (.call 80 [(.d (.int .i64 4294967296))]) [2],oo_ 37 (.call 83 [(.t 35),(.t 36)]) [3,4,4],om_ 38 7
 [],oo_ 39 (.call 82 [(.t 37),(.t 38)]) [5,6,5],oo_ 40 (.call 82 [(.t 34),(.t 39)]) [2,7,7],om_ 3 40 [8,8,0,1,2,3,4,5,6,7,8]])))) (.reg false [om_ 16 5 [],oo_ 17 (.bin .sub (.t 16) (.d (.int .i64 1))) [0],om_ 5 17
 [1,0,1]])))))) (.seq (.reg false [om_ 41 3 [],om_ 2 41 [0,0]]) .ret)))))
theorem o_cf : fnOf Tryz.prog o_cd = some (o_ce, [.t 2], 42, false) := by kernel_rfl

abbrev o_cg : FuncId := 206
def o_ch : C := (.seq (.reg false [oo_ 2 (.mv (.d (.int .i64 0))) []]) (.seq (.seq (.reg false [om_ 3 0 [],oo_ 4 (.bin .geq (.t 3) (.d (.int .u64 4294967296))) [0]]) (.cond (.t 4) (.seq (.reg false [om_ 5 0 [],oo_ 6 (.bin .shr (.t 5)
 (.d (.int .u64 32))) [0],om_ 0 6 [1,0,1]]) (.reg false [oo_ 2 (.mv (.d (.int .i64 32))) []])) .skip)) (.seq (.seq (.reg false [om_ 7 0 [],oo_ 8 (.bin .geq (.t 7) (.d (.int .u64 65536))) [0]]) (.cond (.t 8) (.seq (.reg
 false [om_ 9 0 [],oo_ 10 (.bin .shr (.t 9) (.d (.int .u64 16))) [0],om_ 0 10 [1,0,1]]) (.reg false [om_ 11 2 [],oo_ 12 (.bin .add (.t 11) (.d (.int .i64 16))) [0],om_ 2 12 [1,0,1]])) .skip)) (.seq (.seq (.reg false [om_
 13 0 [],oo_ 14 (.bin .geq (.t 13) (.d (.int .u64 256))) [0]]) (.cond (.t 14) (.seq (.reg false [om_ 15 0 [],oo_ 16 (.bin .shr (.t 15) (.d (.int .u64 8))) [0],om_ 0 16 [1,0,1]]) (.reg false [om_ 17 2 [],oo_ 18 (.bin .add
 (.t 17) (.d (.int .i64 8))) [0],om_ 2 18 [1,0,1]])) .skip)) (.seq (.reg false [om_ 19 2 [],om_ 20 0 [],oo_ 21 (.conv .u8 (.t 20)) [1],⟨some 22,.gstr (.d (.str
 ⟨#[0,1,2,2,3,3,3,3,4,4,4,4,4,4,4,4,5,5,5,5,5,5,5,5,5,5,5,5,5,5,5,5,6,6,6,6,6,6,6,6,6,6,6,6,6,6,6,6,6,6,6,6,6,6,6,6,6,6,6,6,6,6,6,6,7,7,7,7,7,7,7,7,7,7,7,7,7,7,7,7,7,7,7,7,7,7,7,7,7,7,7,7,7,7,7,7,7,7,7,7,7,7,7,7,7,7,7,7,7,7,7,7,7,7,7,7,7,7,7,7,7,7,7,7,7,7,7,7,8,8,8,8,8,8,8,8,8,8,8,8,8,8,8,8,8,8,8,8,8,8,8,8,8,8,8,8,8,8,8,8,8,8,8,8,8,8,8,8,8,8,8,8,8,8,8,8,8,8,8,8,8,8,8,8,8,8,8,8,8,8,8,8,8,8,8,8,8,8,8,8,8,8,8,8,8,8,8,8,8,8,8,8,8,8,8,8,8,8,8,8,8,8,8,8,8,8,8,8,8,8,8,8,8,8,8,8,8,8,8,8,8,8,8,8,8,8,8,8,8,8,8,8,8,8,8,8]⟩)) (.t 21),none,[2]⟩,oo_ 23 (.conv .i64 (.t 22)) [3],oo_ 24 (.bin .add (.t 19) (.t 23)) [0,4],om_ 2 24 [5,0,1,2,3,4,5]]) .ret)))))
theorem o_ci : fnOf Tryz.prog o_cg = some (o_ch, [.t 2], 25, false) := by kernel_rfl

abbrev o_cj : FuncId := 225
def o_ck : C := (.seq (.reg false [oo_ 2 (.mv (.d (.int .i64 0))) []]) (.seq (.reg false [om_ 3 0 [],oo_ 4 (.call 206 [(.t 3)]) [0],oo_ 5 (.bin .sub (.d (.int .i64 64)) (.t 4)) [1],om_ 2 5 [2,1,0,1,2]]) .ret))
theorem o_cl : fnOf Tryz.prog o_cj = some (o_ck, [.t 2], 6, false) := by kernel_rfl

abbrev o_cm : FuncId := 226
def o_cn : C := (.seq (.reg false [⟨some 2,.mv (.d (.str ⟨#[]⟩)),none,[]⟩]) (.seq (.seq (.reg false [om_ 3 0 [],oo_ 4 (.bin .lss (.t 3) (.d (.int .i64 10))) [0]]) (.cond (.t 4) (.seq (.reg false [om_ 5 0 [],om_ 6 0 [],oo_ 7 (.bin .add
 (.t 6) (.d (.int .i64 1))) [1],⟨some 8,.sstr (.d (.str ⟨#[48,49,50,51,52,53,54,55,56,57,97,98,99,100,101,102,103,104,105,106,107,108,109,110,111,112,113,114,115,116,117,118,119,120,121,122]⟩)) (some (.t 5)) (some (.t
 7)),none,[0,2]⟩,om_ 2 8 [3,0,1,2,3]]) .ret) .skip)) (.seq (.reg false [om_ 9 0 [],oo_ 10 (.bin .mul (.t 9) (.d (.int .i64 2))) [0],om_ 11 0 [],oo_ 12 (.bin .mul (.t 11) (.d (.int .i64 2))) [2],oo_ 13 (.bin .add (.t 12)
 (.d (.int .i64 2))) [3],⟨some 14,.sstr (.d (.str
 ⟨#[48,48,48,49,48,50,48,51,48,52,48,53,48,54,48,55,48,56,48,57,49,48,49,49,49,50,49,51,49,52,49,53,49,54,49,55,49,56,49,57,50,48,50,49,50,50,50,51,50,52,50,53,50,54,50,55,50,56,50,57,51,48,51,49,51,50,51,51,51,52,51,53,51,54,51,55,51,56,51,57,52,48,52,49,52,50,52,51,52,52,52,53,52,54,52,55,52,56,52,57,53,48,53,49,53,50,53,51,53,52,53,53,53,54,53,55,53,56,53,57,54,48,54,49,54,50,54,51,54,52,54,53,54,54,54,55,54,56,54,57,55,48,55,49,55,50,55,51,55,52,55,53,55,54,55,55,55,56,55,57,56,48,56,49,56,50,56,51,56,52,56,53,56,54,56,55,56,56,56,57,57,48,57,49,57,50,57,51,57,52,57,53,57,54,57,55,57,56,57,57]⟩)) (some (.t 10)) (some (.t 13)),none,[1,4]⟩,om_ 2 14 [5,0,1,2,3,4,5]]) .ret)))
theorem o_co : fnOf Tryz.prog o_cm = some (o_cn, [.t 2], 15, false) := by kernel_rfl

abbrev o_cp : FuncId := 227
def o_cq : C := (.seq (.reg false [oo_ 2 (.mv (.d (.int .i64 0))) []]) (.seq (.reg false [om_ 4 0 [],oo_ 5 (.call 206 [(.t 4)]) [0],oo_ 6 (.call 248 [(.t 5)]) [1,1],om_ 3 6 [2,2,0,1,2]]) (.seq (.reg false [om_ 7 3 [],om_ 8 0 [],om_ 9 3
 [],oo_ 10 (.gix [(.int .u64 1),(.int .u64 10),(.int .u64 100),(.int .u64 1000),(.int .u64 10000),(.int .u64 100000),(.int .u64 1000000),(.int .u64 10000000),(.int .u64 100000000),(.int .u64 1000000000),(.int .u64
 10000000000),(.int .u64 100000000000),(.int .u64 1000000000000),(.int .u64 10000000000000),(.int .u64 100000000000000),(.int .u64 1000000000000000),(.int .u64 10000000000000000),(.int .u64 100000000000000000),(.int .u64
 1000000000000000000),(.int .u64 10000000000000000000)] 20 1 (.t 9)) [2],oo_ 11 (.load false 1 (.t 10)) [3],oo_ 12 (.bin .geq (.t 8) (.t 11)) [1,4],oo_ 13 (.call 249 [(.t 12)]) [5],oo_ 14 (.bin .add (.t 7) (.t 13))
 [0,6],om_ 2 14 [7,6,0,1,2,3,4,5,6,7]]) .ret)))
theorem o_cr : fnOf Tryz.prog o_cp = some (o_cq, [.t 2], 15, false) := by kernel_rfl

abbrev o_cs : FuncId := 228
def o_ct : C := (.seq (.reg false [om_ 17 0 [],oo_ 18 (.len (.t 17)) [0],om_ 4 18 [1,0,1]]) (.seq (.block 0 (.loop (.seq (.seq (.reg false [om_ 19 4 [],oo_ 20 (.bin .geq (.t 19) (.d (.int .i64 8))) [0]]) (.cond (.t 20) .skip (.exit
 0))) (.block 1 (.seq (.reg false [om_ 21 1 [],oo_ 22 (.bin .rem (.t 21) (.d (.int .u64 100000000))) [0],oo_ 23 (.conv .u32 (.t 22)) [1],om_ 5 23 [2,0,1,2]]) (.seq (.reg false [om_ 24 1 [],oo_ 25 (.bin .quo (.t 24) (.d
 (.int .u64 100000000))) [0],om_ 1 25 [1,0,1]]) (.seq (.reg false [om_ 26 5 [],oo_ 27 (.bin .quo (.t 26) (.d (.int .u32 10000))) [0],om_ 28 5 [],oo_ 29 (.bin .rem (.t 28) (.d (.int .u32 10000))) [2],om_ 6 27 [1,0,1],om_
 7 29 [3,4,0,1,2,3,4]]) (.seq (.reg false [om_ 30 7 [],oo_ 31 (.bin .quo (.t 30) (.d (.int .u32 100))) [0],oo_ 32 (.bin .mul (.t 31) (.d (.int .u32 2))) [1],om_ 33 7 [],oo_ 34 (.bin .rem (.t 33) (.d (.int .u32 100)))
 [3],oo_ 35 (.bin .mul (.t 34) (.d (.int .u32 2))) [4],om_ 8 32 [2,0,1,2],om_ 9 35 [5,6,0,1,2,3,4,5,6]]) (.seq (.reg false [om_ 36 6 [],oo_ 37 (.bin .quo (.t 36) (.d (.int .u32 100))) [0],oo_ 38 (.bin .mul (.t 37) (.d
 (.int .u32 2))) [1],om_ 39 6 [],oo_ 40 (.bin .rem (.t 39) (.d (.int .u32 100))) [3],oo_ 41 (.bin .mul (.t 40) (.d (.int .u32 2))) [4],om_ 10 38 [2,0,1,2],om_ 11 41 [5,6,0,1,2,3,4,5,6]]) (.seq (.reg true [om_ 42 0 [],om_
 43 4 [],oo_ 44 (.bin .sub (.t 43) (.d (.int .i64 1))) [1],om_ 45 0 [],om_ 46 4 [],oo_ 47 (.bin .sub (.t 46) (.d (.int .i64 2))) [4],om_ 48 9 [],oo_ 49 (.bin .add (.t 48) (.d (.int .u32 1))) [6],⟨some 50,.gstr (.d (.str
 ⟨#[48,48,48,49,48,50,48,51,48,52,48,53,48,54,48,55,48,56,48,57,49,48,49,49,49,50,49,51,49,52,49,53,49,54,49,55,49,56,49,57,50,48,50,49,50,50,50,51,50,52,50,53,50,54,50,55,50,56,50,57,51,48,51,49,51,50,51,51,51,52,51,53,51,54,51,55,51,56,51,57,52,48,52,49,52,50,52,51,52,52,52,53,52,54,52,55,52,56,52,57,53,48,53,49,53,50,53,51,53,52,53,53,53,54,53,55,53,56,53,57,54,48,54,49,54,50,54,51,54,52,54,53,54,54,54,55,54,56,54,57,55,48,55,49,55,50,55,51,55,52,55,53,55,54,55,55,55,56,55,57,56,48,56,49,56,50,56,51,56,52,56,53,56,54,56,55,56,56,56,57,57,48,57,49,57,50,57,51,57,52,57,53,57,54,57,55,57,56,57,57]⟩)) (.t 49),none,[7]⟩,om_ 51 9 [],⟨some 52,.gstr (.d (.str ⟨#[48,48,48,49,48,50,48,51,48,52,48,53,48,54,48,55,48,56,48,57,49,48,49,49,49,50,49,51,49,52,49,53,49,54,49,55,49,56,49,57,50,48,50,49,50,50,50,51,50,52,50,53,50,54,50,55,50,56,50,57,51,48,51,49,51,50,51,51,51,52,51,53,51,54,51,55,51,56,51,57,52,48,52,49,52,50,52,51,52,52,52,53,52,54,52,55,52,56,52,57,53,48,53,49,53,50,53,51,53,52,53,53,53,54,53,55,53,56,53,57,54,48,54,49,54,50,54,51,54,52,54,53,54,54,54,55,54,56,54,57,55,48,55,49,55,50,55,51,55,52,55,53,55,54,55,55,55,56,55,57,56,48,56,49,56,50,56,51,56,52,56,53,56,54,56,55,56,56,56,57,57,48,57,49,57,50,57,51,57,52,57,53,57,54,57,55,57,56,57,57]⟩)) (.t 51),none,[9]⟩,oo_ 53 (.ix 1 (.t 42) (.t 44)) [0,2,0,1,2,6,7,8],on_ (.store 1 (.t 53) (.t 50)) [11,8,0,1,2,6,7,8],oo_ 54 (.ix 1 (.t 45) (.t 47)) [3,5,0,1,2,3,4,5,6,7,8,9,10,11,12],on_ (.store 1 (.t 54) (.t 52)) [13,10,12,0,1,2,3,4,5,6,7,8,9,10,11,12]]) (.seq (.reg true [om_ 55 0 [],om_ 56 4 [],oo_ 57 (.bin .sub (.t 56) (.d (.int .i64 3))) [1],om_ 58 0 [],om_ 59 4 [],oo_ 60 (.bin .sub (.t 59) (.d (.int .i64 4))) [4],om_ 61 8 [],oo_ 62 (.bin .add (.t 61) (.d (.int .u32 1))) [6],⟨some 63,.gstr (.d (.str ⟨#[48,48,48,49,48,50,48,51,48,52,48,53,48,54,48,55,48,56,48,57,49,48,49,49,49,50,49,51,49,52,49,53,49,54,49,55,49,56,49,57,50,48,50,49,50,50,50,51,50,52,50,53,50,54,50,55,50,56,50,57,51,48,51,49,51,50,51,51,51,52,51,53,51,54,51,55,51,56,51,57,52,48,52,49,52,50,52,51,52,52,52,53,52,54,52,55,52,56,52,57,53,48,53,49,53,50,53,51,53,52,53,53,53,54,53,55,53,56,53,57,54,48,54,49,54,50,54,51,54,52,54,53,54,54,54,55,54,56,54,57,55,48,55,49,55,50,55,51,55,52,55,53,55,54,55,55,55,56,55,57,56,48,56,49,56,50,56,51,56,52,56,53,56,54,56,55,56,56,56,57,57,48,57,49,57,50,57,51,57,52,57,53,57,54,57,55,57,56,57,57]⟩)) (.t 62),none,[7]⟩,om_ 64 8 [],⟨some 65,.gstr (.d (.str ⟨#[48,48,48,49,48,50,48,51,48,52,48,53,48,54,48,55,48,56,48,57,49,48,49,49,49,50,49,51,49,52,49,53,49,54,49,55,49,56,49,57,50,48,50,49,50,50,50,51,50,52,50,53,50,54,50,55,50,56,50,57,51,48,51,49,51,50,51,51,51,52,51,53,51,54,51,55,51,56,51,57,52,48,52,49,52,50,52,51,52,52,52,53,52,54,52,55,52,56,52,57,53,48,53,49,53,50,53,51,53,52,53,53,53,54,53,55,53,56,53,57,54,48,54,49,54,50,54,51,54,52,54,53,54,54,54,55,54,56,54,57,55,48,55,49,55,50,55,51,55,52,55,53,55,54,55,55,55,56,55,57,56,48,56,49,56,50,56,51,56,52,56,53,56,54,56,55,56,56,56,57,57,48,57,49,57,50,57,51,57,52,57,53,57,54,57,55,57,56,57,57]⟩)) (.t 64),none,[9]⟩,oo_ 66 (.ix 1 (.t 55) (.t 57)) [0,2,0,1,2,6,7,8],on_ (.store 1 (.t 66) (.t 63)) [11,8,0,1,2,6,7,8],oo_ 67 (.ix 1 (.t 58) (.t 60)) [3,5,0,1,2,3,4,5,6,7,8,9,10,11,12],on_ (.store 1 (.t 67) (.t 65)) [13,10,12,0,1,2,3,4,5,6,7,8,9,10,11,12]]) (.seq (.reg true [om_ 68 0 [],om_ 69 4 [],oo_ 70 (.bin .sub (.t 69) (.d (.int .i64 5))) [1],om_ 71 0 [],om_ 72 4 [],oo_ 73 (.bin .sub (.t 72) (.d (.int .i64 6))) [4],om_ 74 11 [],oo_ 75 (.bin .add (.t 74) (.d (.int .u32 1))) [6],⟨some 76,.gstr (.d (.str ⟨#[48,48,48,49,48,50,48,51,48,52,48,53,48,54,48,55,48,56,48,57,49,48,49,49,49,50,49,51,49,52,49,53,49,54,49,55,49,56,49,57,50,48,50,49,50,50,50,51,50,52,50,53,50,54,50,55,50,56,50,57,51,48,51,49,51,50,51,51,51,52,51,53,51,54,51,55,51,56,51,57,52,48,52,49,52,50,52,51,52,52,52,53,52,54,52,55,52,56,52,57,53,48,53,49,53,50,53,51,53,52,53,53,53,54,53,55,53,56,53,57,54,48,54,49,54,50,54,51,54,52,54,53,54,54,54,55,54,56,54,57,55,48,55,49,55,50,55,51,55,52,55,53,55,54,55,55,55,56,55,57,56,48,56,49,56,50,56,51,56,52,56,53,56,54,56,55,56,56,56,57,57,48,57,49,57,50,57,51,57,52,57,53,57,54,57,55,57,56,57,57]⟩)) (.t 75),none,[7]⟩,om_ 77 11 [],⟨some 78,.gstr (.d (.str ⟨#[48,48,48,49,48,50,48,51,48,52,48,53,48,54,48,55,48,56,48,57,49,48,49,49,49,50,49,51,49,52,49,53,49,54,49,55,49,56,49,57,50,48,50,49,50,50,50,51,50,52,50,53,50,54,50,55,50,56,50,57,51,48,51,49,51,50,51,51,51,52,51,53,51,54,51,55,51,56,51,57,52,48,52,49,52,50,52,51,52,52,52,53,52,54,52,55,52,56,52,57,53,48,53,49,53,50,53,51,53,52,53,53,53,54,53,55,53,56,53,57,54,48,54,49,54,50,54,51,54,52,54,53,54,54,54,55,54,56,54,57,55,48,55,49,55,50,55,51,55,52,55,53,55,54,55,55,55,56,55,57,56,48,56,49,56,50,56,51,56,52,56,53,56,54,56,55,56,56,56,57,57,48,57,49,57,50,57,51,57,52,57,53,57,54,57,55,57,56,57,57]⟩)) (.t 77),none,[9]⟩,oo_ 79 (.ix 1 (.t 68) (.t 70)) [0,2,0,1,2,6,7,8],on_ (.store 1 (.t 79) (.t 76)) [11,8,0,1,2,6,7,8],oo_ 80 (.ix 1 (.t 71) (.t 73)) [3,5,0,1,2,3,4,5,6,7,8,9,10,11,12],on_ (.store 1 (.t 80) (.t 78)) [13,10,12,0,1,2,3,4,5,6,7,8,9,10,11,12]]) (.seq (.reg true [om_ 81 0 [],om_ 82 4 [],oo_ 83 (.bin .sub (.t 82) (.d (.int .i64 7))) [1],om_ 84 0 [],om_ 85 4 [],oo_ 86 (.bin .sub (.t 85) (.d (.int .i64 8))) [4],om_ 87 10 [],oo_ 88 (.bin .add (.t 87) (.d (.int .u32 1))) [6],⟨some 89,.gstr (.d (.str ⟨#[48,48,48,49,48,50,48,51,48,52,48,53,48,54,48,55,48,56,48,57,49,48,49,49,49,50,49,51,49,52,49,53,49,54,49,55,49,56,49,57,50,48,50,49,50,50,50,51,50,52,50,53,50,54,50,55,50,56,50,57,51,48,51,49,51,50,51,51,51,52,51,53,51,54,51,55,51,56,51,57,52,48,52,49,52,50,52,51,52,52,52,53,52,54,52,55,52,56,52,57,53,48,53,49,53,50,53,51,53,52,53,53,53,54,53,55,53,56,53,57,54,48,54,49,54,50,54,51,54,52,54,53,54,54,54,55,54,56,54,57,55,48,55,49,55,50,55,51,55,52,55,53,55,54,55,55,55,56,55,57,56,48,56,49,56,50,56,51,56,52,56,53,56,54,56,55,56,56,56,57,57,48,57,49,57,50,57,51,57,52,57,53,57,54,57,55,57,56,57,57]⟩)) (.t 88),none,[7]⟩,om_ 90 10 [],⟨some 91,.gstr (.d (.str ⟨#[48,48,48,49,48,50,48,51,48,52,48,53,48,54,48,55,48,56,48,57,49,48,49,49,49,50,49,51,49,52,49,53,49,54,49,55,49,56,49,57,50,48,50,49,50,50,50,51,50,52,50,53,50,54,50,55,50,56,50,57,51,48,51,49,51,50,51,51,51,52,51,53,51,54,51,55,51,56,51,57,52,48,52,49,52,50,52,51,52,52,52,53,52,54,52,55,52,56,52,57,53,48,53,49,53,50,53,51,53,52,53,53,53,54,53,55,53,56,53,57,54,48,54,49,54,50,54,51,54,52,54,53,54,54,54,55,54,56,54,57,55,48,55,49,55,50,55,51,55,52,55,53,55,54,55,55,55,56,55,57,56,48,56,49,56,50,56,51,56,52,56,53,56,54,56,55,56,56,56,57,57,48,57,49,57,50,57,51,57,52,57,53,57,54,57,55,57,56,57,57]⟩)) (.t 90),none,[9]⟩,oo_ 92 (.ix 1 (.t 81) (.t 83)) [0,2,0,1,2,6,7,8],on_ (.store 1 (.t 92) (.t 89)) [11,8,0,1,2,6,7,8],oo_ 93 (.ix 1 (.t 84) (.t 86)) [3,5,0,1,2,3,4,5,6,7,8,9,10,11,12],on_ (.store 1 (.t 93) (.t 91)) [13,10,12,0,1,2,3,4,5,6,7,8,9,10,11,12]]) (.reg false [om_ 94 4 [],oo_ 95 (.bin .sub (.t 94) (.d (.int .i64 8))) [0],om_ 4 95 [1,0,1]])))))))))))))) (.seq (.reg false [om_ 96 1 [],oo_ 97 (.conv .u32 (.t 96)) [0],om_ 12 97 [1,0,1]]) (.seq (.seq (.reg false [om_ 98 4 [],oo_ 99 (.bin .geq (.t 98) (.d (.int .i64 4))) [0]]) (.cond (.t 99) (.seq (.reg false [om_ 100 12 [],oo_ 101 (.bin .rem (.t 100) (.d (.int .u32 10000))) [0],om_ 13 101 [1,0,1]]) (.seq (.reg false [om_ 102 12 [],oo_ 103 (.bin .quo (.t 102) (.d (.int .u32 10000))) [0],om_ 12 103 [1,0,1]]) (.seq (.reg false [om_ 104 13 [],oo_ 105 (.bin .quo (.t 104) (.d (.int .u32 100))) [0],oo_ 106 (.bin .mul (.t 105) (.d (.int .u32 2))) [1],om_ 107 13 [],oo_ 108 (.bin .rem (.t 107) (.d (.int .u32 100))) [3],oo_ 109 (.bin .mul (.t 108) (.d (.int .u32 2))) [4],om_ 14 106 [2,0,1,2],om_ 15 109 [5,6,0,1,2,3,4,5,6]]) (.seq (.reg true [om_ 110 0 [],om_ 111 4 [],oo_ 112 (.bin .sub (.t 111) (.d (.int .i64 1))) [1],om_ 113 0 [],om_ 114 4 [],oo_ 115 (.bin .sub (.t 114) (.d (.int .i64 2))) [4],om_ 116 15 [],oo_ 117 (.bin .add (.t 116) (.d (.int .u32 1))) [6],⟨some 118,.gstr (.d (.str ⟨#[48,48,48,49,48,50,48,51,48,52,48,53,48,54,48,55,48,56,48,57,49,48,49,49,49,50,49,51,49,52,49,53,49,54,49,55,49,56,49,57,50,48,50,49,50,50,50,51,50,52,50,53,50,54,50,55,50,56,50,57,51,48,51,49,51,50,51,51,51,52,51,53,51,54,51,55,51,56,51,57,52,48,52,49,52,50,52,51,52,52,52,53,52,54,52,55,52,56,52,57,53,48,53,49,53,50,53,51,53,52,53,53,53,54,53,55,53,56,53,57,54,48,54,49,54,50,54,51,54,52,54,53,54,54,54,55,54,56,54,57,55,48,55,49,55,50,55,51,55,52,55,53,55,54,55,55,55,56,55,57,56,48,56,49,56,50,56,51,56,52,56,53,56,54,56,55,56,56,56,57,57,48,57,49,57,50,57,51,57,52,57,53,57,54,57,55,57,56,57,57]⟩)) (.t 117),none,[7]⟩,om_ 119 15 [],⟨some 120,.gstr (.d (.str ⟨#[48,48,48,49,48,50,48,51,48,52,48,53,48,54,48,55,48,56,48,57,49,48,49,49,49,50,49,51,49,52,49,53,49,54,49,55,49,56,49,57,50,48,50,49,50,50,50,51,50,52,50,53,50,54,50,55,50,56,50,57,51,48,51,49,51,50,51,51,51,52,51,53,51,54,51,55,51,56,51,57,52,48,52,49,52,50,52,51,52,52,52,53,52,54,52,55,52,56,52,57,53,48,53,49,53,50,53,51,53,52,53,53,53,54,53,55,53,56,53,57,54,48,54,49,54,50,54,51,54,52,54,53,54,54,54,55,54,56,54,57,55,48,55,49,55,50,55,51,55,52,55,53,55,54,55,55,55,56,55,57,56,48,56,49,56,50,56,51,56,52,56,53,56,54,56,55,56,56,56,57,57,48,57,49,57,50,57,51,57,52,57,53,57,54,57,55,57,56,57,57]⟩)) (.t 119),none,[9]⟩,oo_ 121 (.ix 1 (.t 110) (.t 112)) [0,2,0,1,2,6,7,8],on_ (.store 1 (.t 121) (.t 118)) [11,8,0,1,2,6,7,8],oo_ 122 (.ix 1 (.t 113) (.t 115)) [3,5,0,1,2,3,4,5,6,7,8,9,10,11,12],on_ (.store 1 (.t 122) (.t 120)) [13,10,12,0,1,2,3,4,5,6,7,8,9,10,11,12]]) (.seq (.reg true [om_ 123 0 [],om_ 124 4 [],oo_ 125 (.bin .sub (.t 124) (.d (.int .i64 3))) [1],om_ 126 0 [],om_ 127 4 [],oo_ 128 (.bin .sub (.t 127) (.d (.int .i64 4))) [4],om_ 129 14 [],oo_ 130 (.bin .add (.t 129) (.d (.int .u32 1))) [6],⟨some 131,.gstr (.d (.str ⟨#[48,48,48,49,48,50,48,51,48,52,48,53,48,54,48,55,48,56,48,57,49,48,49,49,49,50,49,51,49,52,49,53,49,54,49,55,49,56,49,57,50,48,50,49,50,50,50,51,50,52,50,53,50,54,50,55,50,56,50,57,51,48,51,49,51,50,51,51,51,52,51,53,51,54,51,55,51,56,51,57,52,48,52,49,52,50,52,51,52,52,52,53,52,54,52,55,52,56,52,57,53,48,53,49,53,50,53,51,53,52,53,53,53,54,53,55,53,56,53,57,54,48,54,49,54,50,54,51,54,52,54,53,54,54,54,55,54,56,54,57,55,48,55,49,55,50,55,51,55,52,55,53,55,54,55,55,55,56,55,57,56,48,56,49,56,50,56,51,56,52,56,53,56,54,56,55,56,56,56,57,57,48,57,49,57,50,57,51,57,52,57,53,57,54,57,55,57,56,57,57]⟩)) (.t 130),none,[7]⟩,om_ 132 14 [],⟨some 133,.gstr (.d (.str ⟨#[48,48,48,49,48,50,48,51,48,52,48,53,48,54,48,55,48,56,48,57,49,48,49,49,49,50,49,51,49,52,49,53,49,54,49,55,49,56,49,57,50,48,50,49,50,50,50,51,50,52,50,53,50,54,50,55,50,56,50,57,51,48,51,49,51,50,51,51,51,52,51,53,51,54,51,55,51,56,51,57,52,48,52,49,52,50,52,51,52,52,52,53,52,54,52,55,52,56,52,57,53,48,53,49,53,50,53,51,53,52,53,53,53,54,53,55,53,56,53,57,54,48,54,49,54,50,54,51,54,52,54,53,54,54,54,55,54,56,54,57,55,48,55,49,55,50,55,51,55,52,55,53,55,54,55,55,55,56,55,57,56,48,56,49,56,50,56,51,56,52,56,53,56,54,56,55,56,56,56,57,57,48,57,49,57,50,57,51,57,52,57,53,57,54,57,55,57,56,57,57]⟩)) (.t 132),none,[9]⟩,oo_ 134 (.ix 1 (.t 123) (.t 125)) [0,2,0,1,2,6,7,8],on_ (.store 1 (.t 134) (.t 131)) [11,8,0,1,2,6,7,8],oo_ 135 (.ix 1 (.t 126) (.t 128)) [3,5,0,1,2,3,4,5,6,7,8,9,10,11,12],on_ (.store 1 (.t 135) (.t 133)) [13,10,12,0,1,2,3,4,5,6,7,8,9,10,11,12]]) (.reg false [om_ 136 4 [],oo_ 137 (.bin .sub (.t 136) (.d (.int .i64 4))) [0],om_ 4 137 [1,0,1]])))))) .skip)) (.seq (.seq (.reg false [om_ 138 4 [],oo_ 139 (.bin .geq (.t 138) (.d (.int .i64 2))) [0]]) (.cond (.t 139) (.seq (.reg false [om_ 140 12 [],oo_ 141 (.bin .rem (.t 140) (.d (.int .u32 100))) [0],oo_ 142 (.bin .mul (.t 141) (.d (.int .u32 2))) [1],om_ 16 142 [2,0,1,2]]) (.seq (.reg false [om_ 143 12 [],oo_ 144 (.bin .quo (.t 143) (.d (.int .u32 100))) [0],om_ 12 144 [1,0,1]]) (.seq (.reg true [om_ 145 0 [],om_ 146 4 [],oo_ 147 (.bin .sub (.t 146) (.d (.int .i64 1))) [1],om_ 148 0 [],om_ 149 4 [],oo_ 150 (.bin .sub (.t 149) (.d (.int .i64 2))) [4],om_ 151 16 [],oo_ 152 (.bin .add (.t 151) (.d (.int .u32 1))) [6],⟨some 153,.gstr (.d (.str ⟨#[48,48,48,49,48,50,48,51,48,52,48,53,48,54,48,55,48,56,48,57,49,48,49,49,49,50,49,51,49,52,49,53,49,54,49,55,49,56,49,57,50,48,50,49,50,50,50,51,50,52,50,53,50,54,50,55,50,56,50,57,51,48,51,49,51,50,51,51,51,52,51,53,51,54,51,55,51,56,51,57,52,48,52,49,52,50,52,51,52,52,52,53,52,54,52,55,52,56,52,57,53,48,53,49,53,50,53,51,53,52,53,53,53,54,53,55,53,56,53,57,54,48,54,49,54,50,54,51,54,52,54,53,54,54,54,55,54,56,54,57,55,48,55,49,55,50,55,51,55,52,55,53,55,54,55,55,55,56,55,57,56,48,56,49,56,50,56,51,56,52,56,53,56,54,56,55,56,56,56,57,57,48,57,49,57,50,57,51,57,52,57,53,57,54,57,55,57,56,57,57]⟩)) (.t 152),none,[7]⟩,om_ 154 16 [],⟨some 155,.gstr (.d (.str ⟨#[48,48,48,49,48,50,48,51,48,52,48,53,48,54,48,55,48,56,48,57,49,48,49,49,49,50,49,51,49,52,49,53,49,54,49,55,49,56,49,57,50,48,50,49,50,50,50,51,50,52,50,53,50,54,50,55,50,56,50,57,51,48,51,49,51,50,51,51,51,52,51,53,51,54,51,55,51,56,51,57,52,48,52,49,52,50,52,51,52,52,52,53,52,54,52,55,52,56,52,57,53,48,53,49,53,50,53,51,53,52,53,53,53,54,53,55,53,56,53,57,54,48,54,49,54,50,54,51,54,52,54,53,54,54,54,55,54,56,54,57,55,48,55,49,55,50,55,51,55,52,55,53,55,54,55,55,55,56,55,57,56,48,56,49,56,50,56,51,56,52,56,53,56,54,56,55,56,56,56,57,57,48,57,49,57,50,57,51,57,52,57,53,57,54,57,55,57,56,57,57]⟩)) (.t 154),none,[9]⟩,oo_ 156 (.ix 1 (.t 145) (.t 147)) [0,2,0,1,2,6,7,8],on_ (.store 1 (.t 156) (.t 153)) [11,8,0,1,2,6,7,8],oo_ 157 (.ix 1 (.t 148) (.t 150)) [3,5,0,1,2,3,4,5,6,7,8,9,10,11,12],on_ (.store 1 (.t 157) (.t 155)) [13,10,12,0,1,2,3,4,5,6,7,8,9,10,11,12]]) (.reg false [om_ 158 4 [],oo_ 159 (.bin .sub (.t 158) (.d (.int .i64 2))) [0],om_ 4 159 [1,0,1]])))) .skip)) (.seq (.reg false [om_ 160 4 [],oo_ 161 (.bin .gtr (.t 160) (.d (.int .i64 0))) [0]]) (.cond (.t 161) (.reg false [om_ 162 0 [],om_ 163 12 [],oo_ 164 (.bin .add (.d (.int .u32 48)) (.t 163)) [1],oo_ 165 (.conv .u8 (.t 164)) [2],oo_ 166 (.ix 1 (.t 162) (.d (.int .i64 0))) [0,0,1,2,3],on_ (.store 1 (.t 166) (.t 165)) [4,3,0,1,2,3]]) .skip)))))))
theorem o_cu : fnOf Tryz.prog o_cs = some (o_ct, [], 167, false) := by kernel_rfl

abbrev o_cv : FuncId := 231
def o_cw : C := (.seq (.reg false [oo_ 4 (.mv (.d (.bool false))) []]) (.seq (.reg false [om_ 5 0 [],oo_ 6 (.lens (.t 5)) [0],om_ 7 1 [],oo_ 8 (.lens (.t 7)) [2],oo_ 9 (.bin .geq (.t 6) (.t 8)) [1,3],om_ 10 9 [4],og_ 11 (.mv (.t 0)) 10
 true [5],og_ 12 (.mv (.t 1)) 10 true [5],og_ 13 (.lens (.t 12)) 10 true [7,5],og_ 14 (.sstr (.t 11) none (some (.t 13))) 10 true [6,8,5],og_ 15 (.mv (.t 1)) 10 true [5],og_ 16 (.bin .eql (.t 14) (.t 15)) 10 true
 [9,10,5],oo_ 17 (.pick (.t 10) (.t 16) (.d (.bool false))) [5,11],om_ 4 17 [12,5,0,1,2,3,4,5,6,7,8,9,10,11,12]]) .ret))
theorem o_cx : fnOf Tryz.prog o_cv = some (o_cw, [.t 4], 18, false) := by kernel_rfl

abbrev o_cy : FuncId := 234
def o_cz : C := (.seq (.reg false [oo_ 4 (.mv (.d .nilsl)) []]) (.seq (.reg false [om_ 8 0 [],oo_ 9 (.len (.t 8)) [0],oo_ 10 (.bin .add (.t 9) (.d (.int .i64 1))) [1],oo_ 11 (.mksl 194 1 8 [(.int .u64 0)] (.t 10) (.t 10)) [2,2],om_ 5
 11 [3,0,1,2,3]]) (.seq (.seq (.reg false [om_ 12 0 [],oo_ 13 (.len (.t 12)) [0],oo_ 14 (.mv (.d (.int .i64 0))) []]) (.block 0 (.loop (.seq (.reg false [oo_ 15 (.bin .lss (.t 14) (.t 13)) []]) (.seq (.cond (.t 15) .skip
 (.exit 0)) (.seq (.block 1 (.seq (.reg false [om_ 16 14 [],oo_ 17 (.ix 1 (.t 12) (.t 14)) [],oo_ 18 (.load false 1 (.t 17)) [1],om_ 6 16 [0,0,1,2],om_ 7 18 [2,3,0,1,2,3]]) (.seq (.reg true [om_ 19 5 [],om_ 20 6 [],oo_
 21 (.ix 1 (.t 19) (.t 20)) [0,1],oo_ 22 (.load false 1 (.t 21)) [2],om_ 23 7 [],om_ 24 1 [],oo_ 25 (.bin .shl (.t 23) (.t 24)) [4,5],oo_ 26 (.bin .or (.t 22) (.t 25)) [3,6],oo_ 27 (.ix 1 (.t 19) (.t 20))
 [0,1,0,1,2,3,4,5,6,7],on_ (.store 1 (.t 27) (.t 26)) [8,7,0,1,2,3,4,5,6,7]]) (.reg false [om_ 28 5 [],om_ 29 6 [],oo_ 30 (.bin .add (.t 29) (.d (.int .i64 1))) [1],om_ 31 7 [],om_ 32 1 [],oo_ 33 (.bin .sub (.d (.int
 .i64 64)) (.t 32)) [4],oo_ 34 (.bin .shr (.t 31) (.t 33)) [3,5],oo_ 35 (.ix 1 (.t 28) (.t 30)) [0,2,0,1,2,3,4,5,6],on_ (.store 1 (.t 35) (.t 34)) [7,6,0,1,2,3,4,5,6]])))) (.reg false [oo_ 36 (.bin .add (.t 14) (.d (.int
 .i64 1))) [],om_ 14 36 [0]]))))))) (.seq (.reg false [om_ 37 5 [],om_ 4 37 [0,0]]) .ret))))
theorem o_d0 : fnOf Tryz.prog o_cy = some (o_cz, [.t 4], 38, false) := by kernel_rfl

abbrev o_d1 : FuncId := 235
def o_d2 : C := (.seq (.reg false [oo_ 4 (.mv (.d (.int .u64 0))) []]) (.seq (.reg false [om_ 11 1 [],oo_ 12 (.len (.t 11)) [0],om_ 5 12 [1,0,1]]) (.seq (.reg false [oo_ 6 (.mv (.d (.int .u64 18446744073709551615))) []]) (.seq (.seq
 (.reg true [om_ 13 0 [],om_ 14 5 [],oo_ 15 (.ix 1 (.t 13) (.t 14)) [0,1],oo_ 16 (.load false 1 (.t 15)) [2],om_ 17 1 [],om_ 18 5 [],oo_ 19 (.bin .sub (.t 18) (.d (.int .i64 1))) [5],oo_ 20 (.ix 1 (.t 17) (.t 19))
 [4,6],oo_ 21 (.load false 1 (.t 20)) [7],oo_ 22 (.bin .lss (.t 16) (.t 21)) [3,8]]) (.cond (.t 22) (.reg true [om_ 24 0 [],om_ 25 5 [],oo_ 26 (.ix 1 (.t 24) (.t 25)) [0,1],oo_ 27 (.load false 1 (.t 26)) [2],om_ 28 0
 [],om_ 29 5 [],oo_ 30 (.bin .sub (.t 29) (.d (.int .i64 1))) [5],oo_ 31 (.ix 1 (.t 28) (.t 30)) [4,6],oo_ 32 (.load false 1 (.t 31)) [7],om_ 33 1 [],om_ 34 5 [],oo_ 35 (.bin .sub (.t 34) (.d (.int .i64 1))) [10],oo_ 36
 (.ix 1 (.t 33) (.t 35)) [9,11],oo_ 37 (.load false 1 (.t 36)) [12],oo_ 38 (.call 193 [(.t 27),(.t 32),(.t 37)]) [3,8,13],om_ 23 38 [14],oo_ 39 (.ext (.t 23) 0) [15],oo_ 40 (.ext (.t 23) 1) [15],om_ 6 39
 [16,14,0,1,2,3,4,5,6,7,8,9,10,11,12,13,14,15,16]]) .skip)) (.seq (.seq (.reg false [om_ 41 0 [],om_ 42 1 [],om_ 43 6 [],oo_ 44 (.call 254 [(.t 41),(.t 42),(.t 43)]) [0,1,2],om_ 7 44 [3,3,0,1,2,3]]) (.block 0 (.loop
 (.seq (.seq (.reg false [om_ 45 7 [],oo_ 46 (.bin .gtr (.t 45) (.d (.int .i64 0))) [0]]) (.cond (.t 46) .skip (.exit 0))) (.seq (.block 1 (.seq (.reg false [om_ 49 6 [],oo_ 50 (.bin .sub (.t 49) (.d (.int .u64 1)))
 [0],om_ 6 50 [1,0,1]]) (.seq (.reg false [oo_ 8 (.mv (.d (.int .u64 0))) []]) (.seq (.seq (.reg false [om_ 51 1 [],oo_ 52 (.len (.t 51)) [0],oo_ 53 (.mv (.d (.int .i64 0))) []]) (.block 2 (.loop (.seq (.reg false [oo_
 54 (.bin .lss (.t 53) (.t 52)) []]) (.seq (.cond (.t 54) .skip (.exit 2)) (.seq (.block 3 (.seq (.reg false [om_ 55 53 [],oo_ 56 (.ix 1 (.t 51) (.t 53)) [],oo_ 57 (.load false 1 (.t 56)) [1],om_ 9 55 [0,0,1,2],om_ 10 57
 [2,3,0,1,2,3]]) (.reg false [om_ 59 0 [],om_ 60 9 [],om_ 61 0 [],om_ 62 9 [],oo_ 63 (.ix 1 (.t 61) (.t 62)) [2,3],oo_ 64 (.load false 1 (.t 63)) [4],om_ 65 10 [],om_ 66 8 [],oo_ 67 (.call 149 [(.t 64),(.t 65),(.t 66)])
 [5,6,7],om_ 58 67 [8],oo_ 68 (.ext (.t 58) 0) [9],oo_ 69 (.ext (.t 58) 1) [9],oo_ 70 (.ix 1 (.t 59) (.t 60)) [0,1,0,1,2,3,4,5,6,7,8,9,10],on_ (.store 1 (.t 70) (.t 68)) [12,10,8,0,1,2,3,4,5,6,7,8,9,10],om_ 8 69
 [11,13,0,1,2,3,4,5,6,7,8,9,10,11,12,13]]))) (.reg false [oo_ 71 (.bin .add (.t 53) (.d (.int .i64 1))) [],om_ 53 71 [0]]))))))) (.seq (.reg false [om_ 72 0 [],om_ 73 5 [],oo_ 74 (.ix 1 (.t 72) (.t 73)) [0,1],oo_ 75
 (.load false 1 (.t 74)) [2],om_ 76 8 [],oo_ 77 (.bin .add (.t 75) (.t 76)) [3,4],oo_ 78 (.ix 1 (.t 72) (.t 73)) [0,1,0,1,2,3,4,5],on_ (.store 1 (.t 78) (.t 77)) [6,5,0,1,2,3,4,5]]) (.seq (.reg false [om_ 79 0 [],om_ 80
 5 [],oo_ 81 (.ix 1 (.t 79) (.t 80)) [0,1],oo_ 82 (.load false 1 (.t 81)) [2],oo_ 83 (.bin .neq (.t 82) (.d (.int .u64 0))) [3]]) (.cond (.t 83) (.reg false [om_ 84 7 [],oo_ 85 (.bin .add (.t 84) (.d (.int .i64 1)))
 [0],om_ 7 85 [1,0,1]]) .skip))))))) (.reg false [om_ 47 7 [],oo_ 48 (.bin .sub (.t 47) (.d (.int .i64 1))) [0],om_ 7 48 [1,0,1]])))))) (.seq (.reg false [om_ 86 6 [],om_ 4 86 [0,0]]) .ret))))))
theorem o_d3 : fnOf Tryz.prog o_d1 = some (o_d2, [.t 4], 87, false) := by kernel_rfl

abbrev o_d4 : FuncId := 236
def o_d5 : C := (.seq (.reg false [oo_ 2 (.box 25 (.t 0)) [],oo_ 4 (.new 25 [.nilsl]) []]) (.seq (.reg false [om_ 8 1 [],oo_ 9 (.mm true [(.d (.int .i64 0)),(.t 8)]) [0],om_ 1 9 [1,0,1]]) (.seq (.seq (.reg false [om_ 10 1 [],oo_ 11
 (.bin .quo (.t 10) (.d (.int .i64 64))) [0],oo_ 12 (.fa 0 (.t 2)) [],oo_ 13 (.load false 1 (.t 12)) [2],oo_ 14 (.len (.t 13)) [3],oo_ 15 (.bin .geq (.t 11) (.t 14)) [1,4]]) (.cond (.t 15) (.seq (.reg false [oo_ 16
 (.build [.nilsl] []) [],on_ (.store 1 (.t 4) (.t 16)) [0,0]]) .ret) .skip)) (.seq (.reg false [oo_ 17 (.fa 0 (.t 2)) [],oo_ 18 (.load false 1 (.t 17)) [0],om_ 19 1 [],oo_ 20 (.bin .quo (.t 19) (.d (.int .i64 64)))
 [2],oo_ 21 (.slice 1 (.t 18) (some (.t 20)) none none) [1,3],oo_ 22 (.call 192 [(.t 21)]) [4],om_ 5 22 [5,5,0,1,2,3,4,5]]) (.seq (.seq (.reg false [om_ 23 1 [],oo_ 24 (.bin .rem (.t 23) (.d (.int .i64 64))) [0],oo_ 6
 (.mv (.d (.int .i64 0))) [],om_ 7 24 [1,2,0,1,2]]) (.block 0 (.loop (.seq (.seq (.reg false [om_ 25 6 [],om_ 26 5 [],oo_ 27 (.len (.t 26)) [1],oo_ 28 (.bin .lss (.t 25) (.t 27)) [0,2]]) (.cond (.t 28) .skip (.exit 0)))
 (.seq (.block 1 (.seq (.reg false [om_ 31 5 [],om_ 32 6 [],oo_ 33 (.ix 1 (.t 31) (.t 32)) [0,1],oo_ 34 (.load false 1 (.t 33)) [2],om_ 35 7 [],oo_ 36 (.bin .shr (.t 34) (.t 35)) [3,4],oo_ 37 (.ix 1 (.t 31) (.t 32))
 [0,1,0,1,2,3,4,5],on_ (.store 1 (.t 37) (.t 36)) [6,5,0,1,2,3,4,5]]) (.seq (.reg false [om_ 38 6 [],oo_ 39 (.bin .add (.t 38) (.d (.int .i64 1))) [0],om_ 40 5 [],oo_ 41 (.len (.t 40)) [2],oo_ 42 (.bin .lss (.t 39) (.t
 41)) [1,3]]) (.cond (.t 42) (.reg true [om_ 43 5 [],om_ 44 6 [],oo_ 45 (.ix 1 (.t 43) (.t 44)) [0,1],oo_ 46 (.load false 1 (.t 45)) [2],om_ 47 5 [],om_ 48 6 [],oo_ 49 (.bin .add (.t 48) (.d (.int .i64 1))) [5],oo_ 50
 (.ix 1 (.t 47) (.t 49)) [4,6],oo_ 51 (.load false 1 (.t 50)) [7],om_ 52 7 [],oo_ 53 (.bin .sub (.d (.int .i64 64)) (.t 52)) [9],oo_ 54 (.bin .shl (.t 51) (.t 53)) [8,10],oo_ 55 (.bin .or (.t 46) (.t 54)) [3,11],oo_ 56
 (.ix 1 (.t 43) (.t 44)) [0,1,0,1,2,3,4,5,6,7,8,9,10,11,12],on_ (.store 1 (.t 56) (.t 55)) [13,12,0,1,2,3,4,5,6,7,8,9,10,11,12]]) .skip)))) (.reg false [om_ 29 6 [],oo_ 30 (.bin .add (.t 29) (.d (.int .i64 1))) [0],om_ 6
 30 [1,0,1]])))))) (.seq (.reg false [om_ 57 5 [],oo_ 58 (.call 141 [(.t 57)]) [0],on_ (.store 1 (.t 4) (.t 58)) [1,1,0,1]]) .ret))))))
theorem o_d6 : fnOf Tryz.prog o_d4 = some (o_d5, [.cell 4 true 1], 59, false) := by kernel_rfl

abbrev o_d7 : FuncId := 248
def o_d8 : C := (.seq (.reg false [oo_ 2 (.mv (.d (.int .i64 0))) []]) (.seq (.reg false [om_ 3 0 [],oo_ 4 (.bin .mul (.t 3) (.d (.int .i64 78913))) [0],oo_ 5 (.bin .shr (.t 4) (.d (.int .u64 18))) [1],om_ 2 5 [2,0,1,2]]) .ret))
theorem o_d9 : fnOf Tryz.prog o_d7 = some (o_d8, [.t 2], 6, false) := by kernel_rfl

abbrev o_da : FuncId := 249
def o_db : C := (.seq (.reg false [oo_ 2 (.mv (.d (.int .i64 0))) []]) (.seq (.seq (.reg false [om_ 3 0 []]) (.cond (.t 3) (.seq (.reg false [oo_ 2 (.mv (.d (.int .i64 1))) []]) .ret) .skip)) (.seq (.reg false [oo_ 2 (.mv (.d (.int
 .i64 0))) []]) .ret)))
theorem o_dc : fnOf Tryz.prog o_da = some (o_db, [.t 2], 4, false) := by kernel_rfl

abbrev o_dd : FuncId := 254
def o_de : C := (.seq (.reg false [oo_ 6 (.mv (.d (.int .i64 0))) []]) (.seq (.reg false [oo_ 7 (.mv (.d (.int .u64 0))) [],oo_ 8 (.mv (.d (.int .u64 0))) [0]]) (.seq (.seq (.reg false [om_ 15 1 [],oo_ 16 (.len (.t 15)) [0],oo_ 17 (.mv
 (.d (.int .i64 0))) []]) (.block 0 (.loop (.seq (.reg false [oo_ 18 (.bin .lss (.t 17) (.t 16)) []]) (.seq (.cond (.t 18) .skip (.exit 0)) (.seq (.block 1 (.seq (.reg false [om_ 19 17 [],oo_ 20 (.ix 1 (.t 15) (.t 17))
 [],oo_ 21 (.load false 1 (.t 20)) [1],om_ 9 19 [0,0,1,2],om_ 10 21 [2,3,0,1,2,3]]) (.seq (.reg false [om_ 23 10 [],om_ 24 2 [],oo_ 25 (.call 148 [(.t 23),(.t 24)]) [0,1],om_ 22 25 [2],oo_ 26 (.ext (.t 22) 0) [3],oo_ 27
 (.ext (.t 22) 1) [3],om_ 11 26 [4,2,0,1,2,3,4],om_ 12 27 [5,6,0,1,2,3,4,5,6]]) (.seq (.reg false [oo_ 13 (.mv (.d (.int .u64 0))) []]) (.seq (.reg false [om_ 29 12 [],om_ 30 7 [],oo_ 31 (.call 149 [(.t 29),(.t 30),(.d
 (.int .u64 0))]) [0,1],om_ 28 31 [2],oo_ 32 (.ext (.t 28) 0) [3],oo_ 33 (.ext (.t 28) 1) [3],om_ 12 32 [4,2,0,1,2,3,4],om_ 13 33 [5,6,0,1,2,3,4,5,6]]) (.seq (.reg false [om_ 34 11 [],om_ 35 13 [],oo_ 36 (.bin .add (.t
 34) (.t 35)) [0,1],om_ 7 36 [2,0,1,2]]) (.reg false [om_ 38 0 [],om_ 39 9 [],om_ 40 0 [],om_ 41 9 [],oo_ 42 (.ix 1 (.t 40) (.t 41)) [2,3],oo_ 43 (.load false 1 (.t 42)) [4],om_ 44 12 [],om_ 45 8 [],oo_ 46 (.call 202
 [(.t 43),(.t 44),(.t 45)]) [5,6,7],om_ 37 46 [8],oo_ 47 (.ext (.t 37) 0) [9],oo_ 48 (.ext (.t 37) 1) [9],oo_ 49 (.ix 1 (.t 38) (.t 39)) [0,1,0,1,2,3,4,5,6,7,8,9,10],on_ (.store 1 (.t 49) (.t 47))
 [12,10,8,0,1,2,3,4,5,6,7,8,9,10],om_ 8 48 [11,13,0,1,2,3,4,5,6,7,8,9,10,11,12,13]]))))))) (.reg false [oo_ 50 (.bin .add (.t 17) (.d (.int .i64 1))) [],om_ 17 50 [0]]))))))) (.seq (.reg false [om_ 51 1 [],oo_ 52 (.len
 (.t 51)) [0],om_ 14 52 [1,0,1]]) (.seq (.reg false [om_ 54 0 [],om_ 55 14 [],om_ 56 0 [],om_ 57 14 [],oo_ 58 (.ix 1 (.t 56) (.t 57)) [2,3],oo_ 59 (.load false 1 (.t 58)) [4],om_ 60 7 [],om_ 61 8 [],oo_ 62 (.call 202
 [(.t 59),(.t 60),(.t 61)]) [5,6,7],om_ 53 62 [8],oo_ 63 (.ext (.t 53) 0) [9],oo_ 64 (.ext (.t 53) 1) [9],oo_ 65 (.ix 1 (.t 54) (.t 55)) [0,1,0,1,2,3,4,5,6,7,8,9,10],on_ (.store 1 (.t 65) (.t 63))
 [12,10,8,0,1,2,3,4,5,6,7,8,9,10],om_ 8 64 [11,13,0,1,2,3,4,5,6,7,8,9,10,11,12,13]]) (.seq (.reg false [om_ 66 8 [],oo_ 67 (.conv .i64 (.t 66)) [0],om_ 6 67 [1,0,1]]) .ret))))))
theorem o_df : fnOf Tryz.prog o_dd = some (o_de, [.t 6], 68, false) := by kernel_rfl

def o_dg : C := (.seq (.reg false [oo_ 5 (.load false 1 (.t 1)) [],oo_ 6 (.bin .mul (.d (.int .i64 2)) (.t 5)) [0],oo_ 7 (.bin .shl (.d (.int .u64 1)) (.t 6)) [1],oo_ 8 (.bsl 194 1 1 [(.int .u64 0)] [(0,1,(.t 7))]) [2],oo_ 9 (.call 139
 [(.t 8)]) [3],oo_ 10 (.build [(.int .i64 0),(.int .i64 0),.nilsl,.nilsl] [(3,1,(.t 9))]) [4],oo_ 3 (.new 331 [(.int .i64 0),(.int .i64 0),.nilsl,.nilsl]) [],on_ (.store 4 (.t 3) (.t 10)) [6,5,4,0,1,2,3,4,5,6]]) (.seq
 (.reg false [oo_ 4 (.mv (.d (.int .i64 0))) []]) (.block 0 (.loop (.seq (.seq (.reg false [om_ 11 4 [],oo_ 12 (.bin .leq (.t 11) (.d (.int .i64 1023))) [0]]) (.cond (.t 12) .skip (.exit 0))) (.seq (.block 1 (.seq (.seq
 (.reg false [om_ 15 0 [],om_ 16 4 [],oo_ 17 (.load true 4 (.t 3)) [],oo_ 18 (.callv (.t 15) [(.t 16),(.t 17)]) [0,1,2],oo_ 19 (.un .not (.t 18)) [3]]) (.cond (.t 19) .ret .skip)) (.reg false [oo_ 20 (.load true 4 (.t
 3)) [],oo_ 21 (.load false 1 (.t 1)) [],oo_ 22 (.call 318 [(.t 20),(.t 21)]) [0,1],on_ (.store 4 (.t 3) (.t 22)) [2,2,0,1,2]]))) (.reg false [om_ 13 4 [],oo_ 14 (.bin .add (.t 13) (.d (.int .i64 1))) [0],om_ 4 14
 [1,0,1]])))))))
abbrev o_dh : FuncId := 149
theorem o_di : Tryz.prog.funcs[o_dh]? = some Tryz.f149 := Tryz.func149
abbrev o_dj : FuncId := 202
theorem o_dk : Tryz.prog.funcs[o_dj]? = some Tryz.f202 := Tryz.func202
end
end Go.Proofs.YtmpjlkclkhnpfaaGreatDoor.Am
namespace Go.Proofs.YtmpjlkclkhnpfaaGreatDoor.Am
section
def wval : List Nat → Nat
 | [] => 0
 | x :: l => x + 18446744073709551616 * wval l
def small (ws : List Nat) : Prop := ∀ x ∈ ws, x < 18446744073709551616

theorem o_dl : ∀ (a b : List Nat), wval (a ++ b) = wval a + 18446744073709551616 ^ a.length * wval b := by
 intro a
 induction a with
 | nil => intro b; simp [wval]
 | cons x a ih => intro b; simp only [List.cons_append, wval, List.length_cons]; rw [ih, Nat.pow_succ, Nat.mul_add, ← Nat.mul_assoc, Nat.mul_comm 18446744073709551616 (18446744073709551616 ^ a.length)]; omega
theorem o_dm : ∀ n, wval (List.replicate n 0) = 0 := by
 intro n
 induction n with
 | zero => rfl
 | succ n ih => rw [List.replicate_succ, wval, ih]
theorem o_dn : ∀ {ws : List Nat}, small ws → wval ws < 18446744073709551616 ^ ws.length := by
 intro ws
 induction ws with
 | nil => intro _; simp [wval]
 | cons x l ih =>
  intro h
  have h1 := h x (by simp)
  have h2 := ih (fun y hy => h y (by simp [hy]))
  rw [wval, List.length_cons, Nat.pow_succ]
  omega

def trimN (ws : List Nat) : Nat → Nat
 | 0 => 0
 | n + 1 => if ws.getD n 0 = 0 then trimN ws n else n + 1
theorem o_do (ws : List Nat) (n : Nat) (h : n < ws.length) : ws.take (n + 1) = ws.take n ++ [ws.getD n 0] := by
 rw [List.take_add_one, List.getElem?_eq_getElem h]
 simp [List.getD, List.getElem?_eq_getElem h]
theorem o_dp (ws : List Nat) : ∀ n, n ≤ ws.length → wval (ws.take (trimN ws n)) = wval (ws.take n) := by
 intro n
 induction n with
 | zero => intro _; rfl
 | succ n ih =>
  intro h
  unfold trimN
  split
  ·rename_i h0
   rw [ih (by omega), o_do _ _ (by omega), o_dl, h0]
   simp [wval]
  ·rfl
def top1 (ws : List Nat) : Prop := ∀ k, ws.length = k + 1 → ws.getD k 0 ≠ 0
theorem o_dq (ws : List Nat) : ∀ n, n ≤ ws.length → top1 (ws.take (trimN ws n)) := by
 intro n
 induction n with
 | zero => intro _ k hk; simp [trimN] at hk
 | succ n ih =>
  intro h
  unfold trimN
  split
  ·exact ih (by omega)
  ·rename_i h0
   intro k hk
   rw [List.length_take, Nat.min_eq_left h] at hk
   obtain rfl : n = k := by omega
   have e : (ws.take (n + 1)).getD n 0 = ws.getD n 0 := by simp [List.getD]
   rw [e]
   exact h0

theorem small.take {ws : List Nat} (h : small ws) (n : Nat) : small (ws.take n) := fun x hx => h x (List.mem_of_mem_take hx)

theorem o_dr {ws : List Nat} (h : small ws) (ht : top1 ws) (h0 : wval ws = 0) : ws = [] := by
 rcases ws.eq_nil_or_concat with rfl | ⟨l, x, rfl⟩
 ·rfl
 ·exfalso
  have := ht l.length (by simp)
  simp at this
  simp [o_dl, wval] at h0
  rcases Nat.mul_eq_zero.1 h0.2 with h | h
  ·exact absurd h (Nat.pos_iff_ne_zero.1 (Nat.pow_pos (by decide)))
  ·exact this h

theorem o_ds : ∀ {a b : List Nat}, small a → small b → top1 a → top1 b → wval a = wval b → a = b := by
 intro a
 induction a with
 | nil => intro b _ hb _ tb h; exact (o_dr hb tb h.symm).symm
 | cons x a ih =>
  intro b ha hb ta tb h
  cases b with
  | nil => exact absurd (o_dr ha ta h) (by simp)
  | cons y b =>
   have h1 := ha x (by simp)
   have h2 := hb y (by simp)
   simp only [wval] at h
   have e : x = y := by omega
   subst e
   have e2 : wval a = wval b := by omega
   have e3 : a = b := ih (fun z hz => ha z (by simp [hz])) (fun z hz => hb z (by simp [hz])) (fun k hk => by have := ta (k + 1) (by simp [hk]); simpa using this) (fun k hk => by have := tb (k + 1) (by simp [hk]); simpa using this) e2
   rw [e3]

def movedL (k : Nat) : Nat → List Nat → List Nat
 | c, [] => [c]
 | c, x :: l => ((x * 2 ^ k) % 18446744073709551616 + c) :: movedL k (x * 2 ^ k / 18446744073709551616) l
theorem o_dt (k : Nat) : ∀ (l : List Nat) (c : Nat), (movedL k c l).length = l.length + 1 := by
 intro l
 induction l with
 | nil => intro c; rfl
 | cons x l ih => intro c; simp [movedL, ih]
theorem o_du (k : Nat) : ∀ (l : List Nat) (c : Nat), wval (movedL k c l) = wval l * 2 ^ k + c := by
 intro l
 induction l with
 | nil => intro c; simp [movedL, wval]
 | cons x l ih =>
  intro c
  rw [movedL, wval, ih, wval]
  have := Nat.div_add_mod (x * 2 ^ k) 18446744073709551616
  rw [Nat.add_mul, Nat.mul_add, Nat.mul_assoc]
  omega
theorem o_dv {k : Nat} (hk : k < 64) : ∀ {l : List Nat} {c : Nat}, small l → c < 2 ^ k → small (movedL k c l) := by
 have p64 : (18446744073709551616 : Nat) = 2 ^ (64 - k) * 2 ^ k := by rw [← Nat.pow_add, show 64 - k + k = 64 by omega]
 intro l
 induction l with
 | nil =>
  intro c _ hc x hx
  simp [movedL] at hx; subst hx
  exact Nat.lt_trans hc (by rw [show (18446744073709551616 : Nat) = 2 ^ 64 by decide]; exact Nat.pow_lt_pow_right (by decide) hk)
 | cons y l ih =>
  intro c h hc x hx
  simp only [movedL, List.mem_cons] at hx
  have hy := h y (by simp)
  rcases hx with rfl | hx
  ·rw [p64, Nat.mul_mod_mul_right]
   have : y % 2 ^ (64 - k) < 2 ^ (64 - k) := Nat.mod_lt _ (Nat.pow_pos (by decide))
   calc _ < y % 2 ^ (64 - k) * 2 ^ k + 2 ^ k := by omega
    _ = (y % 2 ^ (64 - k) + 1) * 2 ^ k := by rw [Nat.add_mul, Nat.one_mul]
    _ ≤ _ := Nat.mul_le_mul_right _ this
  ·refine ih (fun z hz => h z (by simp [hz])) ?_ x hx
   apply Nat.div_lt_of_lt_mul
   exact Nat.mul_lt_mul_of_pos_right hy (Nat.pow_pos (by decide))

def movedB (k : Nat) : Nat → List Nat → List Nat
 | _, [] => []
 | c, x :: l => ((x * 2 ^ k) % 18446744073709551616 + c) :: movedB k (x * 2 ^ k / 18446744073709551616) l
def movedC (k : Nat) : Nat → List Nat → Nat
 | c, [] => c
 | _, x :: l => movedC k (x * 2 ^ k / 18446744073709551616) l
theorem o_dw (k : Nat) : ∀ (l : List Nat) (c : Nat), movedL k c l = movedB k c l ++ [movedC k c l] := by
 intro l
 induction l with
 | nil => intro c; rfl
 | cons x l ih => intro c; simp [movedL, movedB, movedC, ih]
theorem o_dx (k : Nat) (l : List Nat) (c : Nat) : (movedB k c l).length = l.length := by
 have h := o_dt k l c
 rw [o_dw, List.length_append] at h
 simpa using h
theorem o_dy (k : Nat) (x : Nat) : ∀ (l : List Nat) (c : Nat), movedB k c (l ++ [x]) = movedB k c l ++ [(x * 2 ^ k) % 18446744073709551616 + movedC k c l] := by
 intro l
 induction l with
 | nil => intro c; rfl
 | cons y l ih => intro c; simp [movedB, movedC, ih]
theorem o_dz (k : Nat) (x : Nat) : ∀ (l : List Nat) (c : Nat), movedC k c (l ++ [x]) = x * 2 ^ k / 18446744073709551616 := by
 intro l
 induction l with
 | nil => intro c; rfl
 | cons y l ih => intro c; simp [movedC, ih]
theorem o_e0 {k x : Nat} (hx : x < 18446744073709551616) : x * 2 ^ k / 18446744073709551616 < 2 ^ k := by
 apply Nat.div_lt_of_lt_mul
 exact Nat.mul_lt_mul_of_pos_right hx (Nat.pow_pos (by decide))
theorem o_e1 {k : Nat} : ∀ {l : List Nat} {c : Nat}, small l → c < 2 ^ k → movedC k c l < 2 ^ k := by
 intro l
 induction l with
 | nil => intro c _ hc; exact hc
 | cons x l ih => intro c h hc; exact ih (fun z hz => h z (by simp [hz])) (o_e0 (h x (by simp)))
theorem o_e2 {k x c : Nat} (hk : k < 64) (hc : c < 2 ^ k) : c ||| (x * 2 ^ k) % 18446744073709551616 = (x * 2 ^ k) % 18446744073709551616 + c := by
 have p64 : (18446744073709551616 : Nat) = 2 ^ (64 - k) * 2 ^ k := by rw [← Nat.pow_add, show 64 - k + k = 64 by omega]
 rw [p64, Nat.mul_mod_mul_right, Nat.or_comm, Nat.mul_comm]
 exact (Nat.two_pow_add_eq_or_of_lt hc _).symm
theorem o_e3 {k x : Nat} (hk : k ≤ 64) : x * 2 ^ k / 18446744073709551616 = x / 2 ^ (64 - k) := by
 have p64 : (18446744073709551616 : Nat) = 2 ^ (64 - k) * 2 ^ k := by rw [← Nat.pow_add, show 64 - k + k = 64 by omega]
 rw [p64, Nat.mul_div_mul_right _ _ (Nat.pow_pos (by decide))]

theorem o_e4 : ∀ {ws : List Nat} {m : Nat}, top1 ws → wval ws < 18446744073709551616 ^ m → ws.length ≤ m := by
 intro ws
 induction ws with
 | nil => intro m _ _; exact Nat.zero_le _
 | cons x l ih =>
  intro m ht h
  cases m with
  | zero =>
   exfalso
   rw [Nat.pow_zero] at h
   rw [wval] at h
   cases l with
   | nil =>
    have := ht 0 rfl
    simp [wval] at this h
    omega
   | cons y l =>
    have hw : wval (y :: l) = 0 := by omega
    have : (y :: l).length ≤ 0 := ih (m := 0) (fun k hk => by have := ht (k + 1) (by simp [hk]); simpa using this) (by rw [hw]; decide)
    simp at this
  | succ m =>
   rw [List.length_cons]
   have : l.length ≤ m := by
    cases l with
    | nil => exact Nat.zero_le _
    | cons y l =>
     refine ih (fun k hk => by have := ht (k + 1) (by simp [hk]); simpa using this) ?_
     rw [wval, Nat.pow_succ] at h
     omega
   omega

theorem o_e5 (f : Nat → Nat) (n : Nat) : wval ((List.range (n + 1)).map f) = wval ((List.range n).map f) + 18446744073709551616 ^ n * f n := by
 rw [List.range_succ, List.map_append, o_dl]
 simp [wval]
theorem o_e6 (l : List Nat) (n : Nat) : wval (l.take (n + 1)) = wval (l.take n) + 18446744073709551616 ^ n * l.getD n 0 := by
 by_cases h : n < l.length
 ·rw [o_do _ _ h, o_dl, List.length_take, Nat.min_eq_left (Nat.le_of_lt h)]
  simp [wval]
 ·rw [List.take_of_length_le (by omega), List.take_of_length_le (by omega)]
  simp [List.getD, List.getElem?_eq_none (show l.length ≤ n by omega)]

def carryW (a b : List Nat) : Nat → Nat
 | 0 => 0
 | n + 1 => (a.getD n 0 + b.getD n 0 + carryW a b n) / 18446744073709551616
def addW (a b : List Nat) (n : Nat) : Nat := (a.getD n 0 + b.getD n 0 + carryW a b n) % 18446744073709551616

theorem small.getD {l : List Nat} (h : small l) (n : Nat) : l.getD n 0 < 18446744073709551616 := by
 by_cases hn : n < l.length
 ·rw [List.getD, List.getElem?_eq_getElem hn]; exact h _ (List.getElem_mem hn)
 ·simp [List.getD, List.getElem?_eq_none (show l.length ≤ n by omega)]
theorem o_e7 {a b : List Nat} (ha : small a) (hb : small b) : ∀ n, carryW a b n ≤ 1 := by
 intro n
 induction n with
 | zero => exact Nat.zero_le _
 | succ n ih =>
  have h1 := ha.getD n
  have h2 := hb.getD n
  simp only [carryW]
  omega
theorem o_e8 (a b : List Nat) : ∀ n, wval ((List.range n).map (addW a b)) + 18446744073709551616 ^ n * carryW a b n = wval (a.take n) + wval (b.take n) := by
 intro n
 induction n with
 | zero => simp [wval, carryW]
 | succ n ih =>
  rw [o_e5, o_e6, o_e6]
  have := Nat.div_add_mod (a.getD n 0 + b.getD n 0 + carryW a b n) 18446744073709551616
  simp only [addW, carryW]
  rw [Nat.pow_succ]
  generalize 18446744073709551616 ^ n = P at *
  generalize (a.getD n 0 + b.getD n 0 + carryW a b n) / 18446744073709551616 = q at *
  generalize (a.getD n 0 + b.getD n 0 + carryW a b n) % 18446744073709551616 = r at *
  have e : P * (18446744073709551616 * q + r) = P * a.getD n 0 + P * b.getD n 0 + P * carryW a b n := by rw [this]; simp [Nat.mul_add]
  rw [Nat.mul_add, ← Nat.mul_assoc] at e
  omega

def borrowW (a b : List Nat) : Nat → Nat
 | 0 => 0
 | n + 1 => if a.getD n 0 < b.getD n 0 + borrowW a b n then 1 else 0
def subW (a b : List Nat) (n : Nat) : Nat := (a.getD n 0 + 18446744073709551616 - b.getD n 0 - borrowW a b n) % 18446744073709551616
theorem o_e9 (a b : List Nat) : ∀ n, borrowW a b n ≤ 1 := by
 intro n
 cases n with
 | zero => exact Nat.zero_le _
 | succ n => simp only [borrowW]; split <;> omega
theorem o_ea {a b : List Nat} (ha : small a) (hb : small b) : ∀ n, wval ((List.range n).map (subW a b)) + wval (b.take n) = wval (a.take n) + 18446744073709551616 ^ n * borrowW a b n := by
 intro n
 induction n with
 | zero => simp [wval, borrowW]
 | succ n ih =>
  rw [o_e5, o_e6, o_e6]
  have h1 := ha.getD n
  have h2 := hb.getD n
  have h3 := o_e9 a b n
  have e : subW a b n + b.getD n 0 + borrowW a b n = a.getD n 0 + 18446744073709551616 * borrowW a b (n + 1) := by
   simp only [subW, borrowW]
   split <;> omega
  rw [Nat.pow_succ, Nat.mul_assoc]
  generalize 18446744073709551616 ^ n = P at *
  have e2 : P * subW a b n + P * b.getD n 0 + P * borrowW a b n = P * a.getD n 0 + P * (18446744073709551616 * borrowW a b (n + 1)) := by rw [← Nat.mul_add, ← Nat.mul_add, e, Nat.mul_add]
  omega
theorem o_eb {f : Nat → Nat} (h : ∀ i, f i < 18446744073709551616) (n : Nat) : small ((List.range n).map f) := by
 intro x hx
 obtain ⟨i, _, rfl⟩ := List.mem_map.1 hx
 exact h i
theorem o_ec (a b : List Nat) (i : Nat) : addW a b i < 18446744073709551616 := Nat.mod_lt _ (by decide)
theorem o_ed (a b : List Nat) (i : Nat) : subW a b i < 18446744073709551616 := Nat.mod_lt _ (by decide)

theorem o_ee {a b : List Nat} (ha : small a) (hb : top1 b) (h : a.length < b.length) : wval a < wval b := by
 refine Nat.lt_of_lt_of_le (o_dn ha) ?_
 apply Nat.le_of_not_lt
 intro hlt
 have := o_e4 hb hlt
 omega
def cmpN (a b : List Nat) : Nat → Int
 | 0 => 0
 | n + 1 => if a.getD n 0 < b.getD n 0 then -1 else if b.getD n 0 < a.getD n 0 then 1 else cmpN a b n
theorem o_ef {l : List Nat} (h : small l) (n : Nat) : wval (l.take n) < 18446744073709551616 ^ n := by
 have := o_dn (h.take n)
 rw [List.length_take] at this
 exact Nat.lt_of_lt_of_le this (Nat.pow_le_pow_right (by decide) (Nat.min_le_left _ _))
theorem o_eg {a b : List Nat} (ha : small a) (hb : small b) : ∀ n, cmpN a b n = if wval (a.take n) < wval (b.take n) then -1 else if wval (b.take n) < wval (a.take n) then 1 else 0 := by
 intro n
 induction n with
 | zero => simp [cmpN, wval]
 | succ n ih =>
  rw [o_e6, o_e6]
  have h1 := o_ef ha n
  have h2 := o_ef hb n
  simp only [cmpN]
  generalize 18446744073709551616 ^ n = P at *
  generalize a.getD n 0 = x at *
  generalize b.getD n 0 = y at *
  by_cases hxy : x < y
  ·rw [if_pos hxy, if_pos]
   have : P * (x + 1) ≤ P * y := Nat.mul_le_mul_left _ hxy
   rw [Nat.mul_add] at this
   omega
  ·rw [if_neg hxy]
   by_cases hyx : y < x
   ·have : P * (y + 1) ≤ P * x := Nat.mul_le_mul_left _ hyx
    rw [Nat.mul_add] at this
    rw [if_pos hyx, if_neg (by omega), if_pos (by omega)]
   ·obtain rfl : x = y := by omega
    rw [if_neg hyx, ih]
    simp only [Nat.add_lt_add_iff_right]
def cmpZ (m n : Nat) : Int := if m < n then -1 else if n < m then 1 else 0
end
end Go.Proofs.YtmpjlkclkhnpfaaGreatDoor.Am
namespace Go.Proofs.YtmpjlkclkhnpfaaGreatDoor.Am
section
open Go.RowKit
def W (ws : List Nat) : D := .sl ws.length (ws.map fun x : Nat => .int .u64 x)

def wordsF : Nat → Nat → List Nat
 | 0, _ => []
 | f + 1, n => if n = 0 then [] else (n % 18446744073709551616) :: wordsF f (n / 18446744073709551616)
def words (n : Nat) : List Nat := wordsF n n

theorem o_eh : ∀ (f n : Nat), n ≤ f → wval (wordsF f n) = n ∧ small (wordsF f n) ∧ top1 (wordsF f n)
 | 0, n, h => by
  obtain rfl : n = 0 := by omega
  exact ⟨rfl, by simp [small, wordsF], by intro k hk; simp [wordsF] at hk⟩
 | f + 1, n, h => by
  by_cases h0 : n = 0
  ·subst h0
   simp only [wordsF, if_true]
   exact ⟨rfl, by simp [small], by intro k hk; simp at hk⟩
  ·obtain ⟨h1, h2, h3⟩ := o_eh f (n / 18446744073709551616) (by omega)
   simp only [wordsF, if_neg h0]
   refine ⟨by simp only [wval, h1]; omega, fun x hx => ?_, fun k hk => ?_⟩
   ·rcases List.mem_cons.1 hx with rfl | hx
    ·omega
    ·exact h2 x hx
   ·cases hl : wordsF f (n / 18446744073709551616) with
    | nil =>
     rw [hl] at h1 hk
     simp [wval] at h1 hk
     subst hk
     simp; omega
    | cons y r =>
     rw [hl] at hk h3
     simp at hk
     subst hk
     have := h3 r.length rfl
     simpa using this
theorem o_ei (n : Nat) : wval (words n) = n := (o_eh n n (Nat.le_refl _)).1
theorem o_ej (n : Nat) : small (words n) := (o_eh n n (Nat.le_refl _)).2.1
theorem o_ek (n : Nat) : top1 (words n) := (o_eh n n (Nat.le_refl _)).2.2
theorem o_el {ws : List Nat} (h : small ws) (ht : top1 ws) : words (wval ws) = ws := o_ds (o_ej _) h (o_ek _) ht (o_ei _)
theorem o_em {n : Nat} : words n = [] ↔ n = 0 := by
 constructor
 ·intro h; have := o_ei n; rw [h] at this; exact this.symm
 ·rintro rfl; rfl

def natW (n : Nat) : D := W (words n)
theorem o_en {ws : List Nat} (h : small ws) (ht : top1 ws) : natW (wval ws) = W ws := by rw [natW, o_el h ht]
theorem o_eo : natW 0 = .sl 0 [] := rfl
def size (n : Nat) : Nat := (words n).length

theorem o_ep (n : Nat) (l : List D) (hl : l.length = n) (hn : n ≤ 4000000000) : Eqn Tryz.prog o_bs [.d (.sl n l)] [] (.d (.sl n l)) [] := by
 refine Eqn.pure o_bu (o_58 _) ?_
 simp only [o_bt]
 rcases Nat.eq_zero_or_pos n with rfl | h0
 ·have : l = [] := List.eq_nil_of_length_eq_zero hl
  subst this
  refine AW.empty 0 rfl ?_ ?_
  ·simp
   refine G0 ?_; try with_reducible exact tt
   refine AW.cond rfl (fun h => ?_) (fun h => ?_)
   ·refine G0 ?_; try with_reducible exact tt
    exact Sub1.nil
   ·simp at h
  ·simp
   refine G0 ?_; try with_reducible exact tt
   refine AW.cond rfl (fun h => ?_) (fun h => ?_)
   ·simp at h
   ·refine G0 ?_; try with_reducible exact tt
    exact Sub1.sl0
 ·refine G1 h0 ?_; try with_reducible exact tt
  refine AW.cond rfl (fun h => ?_) (fun h => ?_)
  ·simp at h
  ·refine G0 ?_; try with_reducible exact tt
   have h1 : ¬ n = 0 := by omega
   simp [h1, hl]
   refine need.of (by omega) ?_
   refine AW.freeze 0 1 ⟨194, l.map .d⟩ l (by simp) rfl ?_
   simp
   refine G0 ?_; try with_reducible exact tt
   have : l.take n = l := List.take_of_length_le (by omega)
   simp [this]

theorem o_eq {ws : List Nat} {k : Nat} (h : k < ws.length) : ws[k] = ws.getD k 0 := by simp [List.getD, h]

theorem o_er (ws : List Nat) (hs : small ws) (hn : ws.length ≤ 4000000000) : Eqn Tryz.prog o_aa [.d (W ws)] [] (.d (.agg [natW (wval ws)])) [] := by
 refine Eqn.pure o_ac (o_58 _) ?_
 simp only [o_ab, W]
 refine G0 ?_; try with_reducible exact tt
 refine AW.loopT (α := Nat) 1 (fun m => [(3, .d (.int .i64 (m : Int)))]) (fun _ => []) (fun m => m ≤ ws.length ∧ trimN ws m = trimN ws ws.length) (fun m => m) ws.length ?_ ?_ ⟨Nat.le_refl _, rfl⟩ ?_ ?_ ?_
 ·simp
 ·simp
 ·simp
 ·simp
 rintro m ⟨hm, ht⟩
 simp
 have fin : ∀ k, k = trimN ws ws.length → W (ws.take k) = natW (wval ws) := by
  rintro k rfl
  have := o_en (hs.take (trimN ws ws.length)) (o_dq ws _ (Nat.le_refl _))
  rw [← this, o_dp _ _ (Nat.le_refl _), List.take_length]
 cases m with
 | zero =>
  refine G0 ?_; try with_reducible exact tt
  refine AW.cond rfl (fun h => ?_) (fun h => ?_)
  ·simp at h
  refine G0 ?_; try with_reducible exact tt
  refine Sub1.of ?_
  rw [← fin 0 ht]
  simp [W]
 | succ m =>
  have hm' : m < ws.length := hm
  have hp : (0 : Int) < (m : Int) + 1 := by omega
  have e : (m : Int) + 1 - 1 = m := by omega
  have ew : IntKind.i64.wrap (m : Int) = m := w64 (by omega) (by omega)
  refine G1 (fs hp (fs e (fs ew hm'))) ?_; try with_reducible exact tt
  refine AW.cond rfl (fun h => ?_) (fun h => ?_)
  ·simp at h
   refine G1 (fs hp (fs e ew)) ?_; try with_reducible exact tt
   refine ⟨m, ⟨by omega, ?_⟩, ?_⟩
   ·rw [← ht, trimN, if_pos]
    rw [← o_eq hm']; omega
   ·simp
  ·simp at h
   refine G0 ?_; try with_reducible exact tt
   have hk : m + 1 = trimN ws ws.length := by
    rw [← ht, trimN, if_neg]
    rw [← o_eq hm']; omega
   refine G0 ?_; try with_reducible exact tt
   refine Sub1.of ?_
   rw [← fin _ hk]
   simp [W]
   omega

theorem o_es (ws : List Nat) (hs : small ws) (hn : ws.length ≤ 4000000000) : Eqn Tryz.prog o_a4 [.d (W ws)] [] (.d (.agg [natW (wval ws)])) [] := by
 refine Eqn.pure o_a6 (o_58 _) ?_
 simp only [o_a5, W]
 refine G0 ?_; try with_reducible exact tt
 refine CallS.pu (o_ep _ (ws.map fun x : Nat => .int .u64 x) (by simp) hn) (R0 ?_); try with_reducible exact tt
 refine CallS.pu (o_er ws hs hn) (R0 ?_); try with_reducible exact tt

theorem o_et (n : Nat) : Eqn Tryz.prog o_9y [.d (.agg [natW n])] [] (.d (.bool (n == 0))) [] := by
 refine Eqn.pure o_a0 (o_58 _) ?_
 simp only [o_9z, natW, W]
 refine G0 ?_; try with_reducible exact tt
 refine Sub1.bool ?_
 rw [Bool.eq_iff_iff]
 simp [o_em]

theorem o_eu {m n : Nat} (h : size m < size n) : m < n := by
 have := o_ee (o_ej m) (o_ek n) h
 rwa [o_ei, o_ei] at this

theorem o_ev (m n : Nat) (hm : size m ≤ 1000000) (hn : size n ≤ 1000000) : Eqn Tryz.prog o_aj [.d (.agg [natW m]), .d (.agg [natW n])] [] (.d (.int .i64 (cmpZ m n))) [] := by
 refine Eqn.pure o_al (o_58 _) ?_
 unfold size at hm hn
 have sa := o_ej m
 have sb := o_ej n
 simp only [o_ak, natW, W]
 have hz : cmpZ m n = if (words m).length < (words n).length then -1 else if (words n).length < (words m).length then 1 else cmpN (words m) (words n) (words m).length := by
  split
  ·rename_i h; rw [cmpZ, if_pos (o_eu h)]
  ·split
   ·rename_i h; have := o_eu h; rw [cmpZ, if_neg (by omega), if_pos this]
   ·have := o_eg sa sb (words m).length
    rw [List.take_length, show (words m).length = (words n).length by omega, List.take_length, o_ei, o_ei] at this
    rw [show (words m).length = (words n).length by omega, this]
    rfl
 rw [hz]
 clear hz
 generalize words m = xs at *
 generalize words n = ys at *
 by_cases hl : xs.length = ys.length
 ·refine G1 hl ?_; try with_reducible exact tt
  refine AW.cond rfl (fun h => ?_) (fun h => ?_)
  ·simp [w64] at h
  refine G1 hl ?_; try with_reducible exact tt
  refine AW.loopT (α := Nat) 2 (fun m => [(6, .d (.int .i64 ((m : Int) - 1)))]) (fun _ => []) (fun m => m ≤ ys.length ∧ cmpN xs ys m = cmpN xs ys ys.length) (fun m => m) ys.length ?_ ?_ ⟨Nat.le_refl _, rfl⟩ ?_ ?_ ?_
  ·simp
  ·simp
  ·simp [hl]
  ·simp
  rintro m ⟨hm', hc⟩
  simp
  cases m with
  | zero =>
   refine G0 ?_; try with_reducible exact tt
   refine AW.cond rfl (fun h => ?_) (fun h => ?_)
   ·simp at h
   refine G0 ?_; try with_reducible exact tt
   refine Sub1.int ?_
   rw [← hc]; rfl
  | succ m =>
   have h1 : m < xs.length := by omega
   have h2 : m < ys.length := hm'
   have e : (m : Int) + 1 - 1 = m := by omega
   have ew : IntKind.i64.wrap ((m : Int) - 1) = (m : Int) - 1 := w64 (by omega) (by omega)
   rw [cmpN, ← o_eq h1, ← o_eq h2] at hc
   refine G1 (fs e (fs h1 h2)) ?_; try with_reducible exact tt
   refine AW.cond rfl (fun h => ?_) (fun h => ?_)
   ·refine G1 (fs e (fs h1 h2)) ?_; try with_reducible exact tt
    refine AW.cond rfl (fun h => ?_) (fun h => ?_)
    ·simp at h
     refine G0 ?_; try with_reducible exact tt
     refine Sub1.int ?_
     rw [if_pos h] at hc
     exact hc
    ·simp at h
     rw [if_neg (by omega)] at hc
     refine G0 ?_; try with_reducible exact tt
     refine AW.cond rfl (fun h => ?_) (fun h => ?_)
     ·simp at h
      refine G0 ?_; try with_reducible exact tt
      refine Sub1.int ?_
      rw [if_pos h] at hc
      exact hc
     ·simp at h
      rw [if_neg (by omega)] at hc
      refine G1 ew ?_; try with_reducible exact tt
      exact ⟨m, ⟨by omega, hc⟩, by simp⟩
   ·simp at h
 ·refine G0 ?_; try with_reducible exact tt
  refine AW.cond rfl (fun h => ?_) (fun h => ?_)
  ·refine G0 ?_; try with_reducible exact tt
   refine Sub1.int ?_
   split <;> omega
  ·simp at h
   omega
end
end Go.Proofs.YtmpjlkclkhnpfaaGreatDoor.Am
namespace Go.Proofs.YtmpjlkclkhnpfaaGreatDoor.Am
section
open Go.RowKit
abbrev U (ws : List Nat) : List V := ws.map fun x : Nat => V.d (.int .u64 x)

theorem o_ew (x y c s d : Nat) (hx : x < 18446744073709551616) (hy : y < 18446744073709551616) (hc : c ≤ 1) (hs : s < 18446744073709551616) (e : x + y + c = s + 18446744073709551616 * d) : Eqn Tryz.prog o_dh [.d (.int .u64 x), .d (.int .u64 y), .d (.int .u64 c)] [] (.tup [.d (.int .u64 s), .d (.int .u64 d)]) [] := by
 refine Eqn.extern o_di (by kernel_rfl) (by kernel_rfl) (by kernel_rfl) (e := add64Entry) (by kernel_rfl) rfl fun m vs h => ?_
 obtain ⟨v1, r1, rfl, h1, h⟩ := V.reps_cons'.1 h
 obtain ⟨v2, r2, rfl, h2, h⟩ := V.reps_cons'.1 h
 obtain ⟨v3, r3, rfl, h3, h⟩ := V.reps_cons'.1 h
 simp at h; subst h
 rw [V.rep_int] at h1 h2 h3
 subst h1 h2 h3
 have := run_add64 (P := Tryz.prog) x y c (by omega) (by omega) (by omega) (by omega) m.w
 refine ⟨_, this, ?_⟩
 unfold V.rep
 refine ⟨[.int .u64 (((x : Int) + y + c) % 18446744073709551616), .int .u64 (((x : Int) + y + c) / 18446744073709551616)], rfl, ?_⟩
 simp only [V.reps_cons, V.rep_int, V.reps_nil, and_true]
 constructor <;> congr 1 <;> omega

theorem o_ex (x y c s d : Nat) (hx : x < 18446744073709551616) (hy : y < 18446744073709551616) (hc : c ≤ 1) (hs : s < 18446744073709551616) (e : x + 18446744073709551616 * d = s + y + c) : Eqn Tryz.prog o_dj [.d (.int .u64 x), .d (.int .u64 y), .d (.int .u64 c)] [] (.tup [.d (.int .u64 s), .d (.int .u64 d)]) [] := by
 refine Eqn.extern o_dk (by kernel_rfl) (by kernel_rfl) (by kernel_rfl) (e := sub64Entry) (by kernel_rfl) rfl fun m vs h => ?_
 obtain ⟨v1, r1, rfl, h1, h⟩ := V.reps_cons'.1 h
 obtain ⟨v2, r2, rfl, h2, h⟩ := V.reps_cons'.1 h
 obtain ⟨v3, r3, rfl, h3, h⟩ := V.reps_cons'.1 h
 simp at h; subst h
 rw [V.rep_int] at h1 h2 h3
 subst h1 h2 h3
 have := run_sub64 (P := Tryz.prog) x y c hc m.w
 refine ⟨_, this, ?_⟩
 unfold V.rep
 refine ⟨[.int .u64 s, .int .u64 d], ?_, by simp only [V.reps_cons, V.rep_int, V.reps_nil, and_true]⟩
 congr 4
 ·omega
 ·congr 2
  split <;> omega

theorem o_ey (a b : List Nat) (i : Nat) : a.getD i 0 + b.getD i 0 + carryW a b i = addW a b i + 18446744073709551616 * carryW a b (i + 1) := by
 rw [addW, carryW]; exact (Nat.mod_add_div _ _).symm
theorem o_ez {ws : List Nat} {k : Nat} (h : ¬ k < ws.length) : ws.getD k 0 = 0 := by simp [List.getD, show ws.length ≤ k by omega]
theorem o_f0 (l : List D) : (V.tup (l.map .d)).plain := by
 have h1 : V.lowl 0 (l.map V.d) = true := by induction l <;> simp_all [V.lowl, V.low]
 have h2 : ∀ θ, V.rens θ (l.map V.d) = l.map V.d := fun θ => by induction l <;> simp_all [V.rens, V.ren]
 exact ⟨by simp [V.low, h1], fun θ => by simp [V.ren, h2]⟩

def rowV (f : Nat → D) (n i : Nat) : List V := (List.range i).map (fun k => V.d (f k)) ++ List.replicate (n - i) (.d (.int .u64 0))
@[simp] theorem o_f1 (f : Nat → D) (n i : Nat) : (rowV f n i).length = i + (n - i) := by simp [rowV]
theorem out0 (n : Nat) (f : Nat → D) : List.replicate n (V.d (.int .u64 0)) = rowV f n 0 := by simp [rowV]
theorem o_f2 {f : Nat → D} {n i : Nat} (h : i < n) : (rowV f n i).set i (.d (f i)) = rowV f n (i + 1) := by
 obtain ⟨k, rfl⟩ : ∃ k, n = i + k + 1 := ⟨n - i - 1, by omega⟩
 rw [rowV, rowV, List.set_append_right _ _ (by simp), List.range_succ, List.map_append, List.append_assoc]
 congr 1
 simp only [List.length_map, List.length_range, Nat.sub_self]
 rw [show i + k + 1 - i = k + 1 by omega, show i + k + 1 - (i + 1) = k by omega]
 simp [List.replicate_succ]
@[simp] theorem o_f3 (n : Nat) (f : Nat → D) (k i : Nat) : V.lowl n (rowV f k i) = true := by
 have h1 : ∀ l : List D, V.lowl n (l.map V.d) = true := fun l => by induction l <;> simp_all [V.lowl, V.low]
 have : rowV f k i = ((List.range i).map f ++ List.replicate (k - i) (D.int .u64 0)).map .d := by simp [rowV]
 rw [this, h1]
@[simp] theorem o_f4 (l : List V) : Subs l l ↔ True := iff_true_intro (Subs.refl l)
theorem o_f5 {f : Nat → D} {n : Nat} {z : D} : (rowV f (n + 1) n).set n (.d z) = ((List.range n).map f ++ [z]).map .d := by
 rw [rowV, List.set_append_right _ _ (by simp)]
 simp
theorem o_f6 {f : Nat → D} {n : Nat} : rowV f n n = ((List.range n).map f).map .d := by simp [rowV]

theorem o_f7 (a b : D) : (V.tup [.d a, .d b]).plain := o_f0 [a, b]
theorem o_f8 (a b c : D) : (V.tup [.d a, .d b, .d c]).plain := o_f0 [a, b, c]

theorem o_f9 (m n : Nat) (hm : size m ≤ 1000000) (hn : size n ≤ 1000000) : Eqn Tryz.prog o_a1 [.d (.agg [natW m]), .d (.agg [natW n])] [] (.d (.agg [natW (m + n)])) [] := by
 refine Eqn.pure o_a3 (o_58 _) ?_
 -- the longer one, the other one
 obtain ⟨A, B, hAB, hsA, hsB, hle, hsum, hca, hcb⟩ : ∃ A B : List Nat, (A, B) = (if (words m).length < (words n).length then (words n, words m) else (words m, words n)) ∧ small A ∧ small B ∧ B.length ≤ A.length ∧ wval A + wval B = m + n ∧ A.length ≤ 1000000 ∧ B.length ≤ 1000000 := by
  unfold size at hm hn
  by_cases h : (words m).length < (words n).length
  ·exact ⟨words n, words m, by rw [if_pos h], o_ej _, o_ej _, by omega, by rw [o_ei, o_ei]; omega, by omega, by omega⟩
  ·exact ⟨words m, words n, by rw [if_neg h], o_ej _, o_ej _, by omega, by rw [o_ei, o_ei], by omega, by omega⟩
 simp only [o_a2, natW, W]
 generalize words m = xs at *
 generalize words n = ys at *
 unfold size at hm hn
 refine AW.seq (AW.reg mix ?_)
 (simp -implicitDefEqProofs; try simp (disch := omega) only [w64, wu64])
 refine AW.cut 3 [] [(0, ⟨25, [.d (W A)]⟩), (1, ⟨25, [.d (W B)]⟩)] ?_ ?_ ?_ ?_
 ·simp
 ·simp
 ·refine G0 ?_; try with_reducible exact tt
  refine AW.cond rfl (fun h => ?_) (fun h => ?_)
  ·simp at h
   rw [if_pos h] at hAB
   cases hAB
   refine G0 ?_; try with_reducible exact tt
   simp [W]
  ·simp at h
   rw [if_neg (by omega)] at hAB
   cases hAB
   refine G0 ?_; try with_reducible exact tt
   simp [W]
 clear hAB hm hn
 simp [W]
 refine G0 ?_; try with_reducible exact tt

 rw [out0 _ (fun k => .int .u64 (addW A B k : Nat))]
 refine G0 ?_; try with_reducible exact tt
 refine AW.loopT (α := Nat) 4 (fun i => [(27, .d (.int .i64 (i : Int))), (6, .d (.int .u64 (carryW A B i : Nat)))]) (fun i => [(3, ⟨194, rowV (fun k => .int .u64 (addW A B k : Nat)) (A.length + 1) i⟩)]) (fun i => i ≤ A.length) (fun i => A.length - i) 0 ?_ ?_ (Nat.zero_le _) ?_ ?_ ?_
 ·simp
 ·simp
 ·simp [carryW]
 ·simp
 rintro i hi
 simp
 by_cases h : i = A.length
 ·subst h
  refine G0 ?_; try with_reducible exact tt
  refine AW.cond rfl (fun h => ?_) (fun h => ?_)
  ·simp at h
  refine AW.exit ?_
  (try (simp -implicitDefEqProofs; try simp (disch := omega) only [w64, wu64]))
  repeat (first | refine AW.seq ?_ | refine AW.block ?_)
  refine AW.reg mix ?_
  (simp -implicitDefEqProofs; try simp (disch := omega) only [w64, wu64])
  try refine need.of (by first | omega | kernel_rfl) ?_
  obtain ⟨ws, hl, hr, hv, hs⟩ : ∃ ws : List Nat, ws.length = A.length + 1 ∧ (rowV (fun k => .int .u64 (addW A B k : Nat)) (A.length + 1) A.length).set A.length (.d (.int .u64 (carryW A B A.length : Nat))) = U ws ∧ wval ws = m + n ∧ small ws := by
   refine ⟨(List.range A.length).map (addW A B) ++ [carryW A B A.length], by simp, by rw [o_f5]; simp [U], ?_, ?_⟩
   ·rw [o_dl, ← hsum]
    have := o_e8 A B A.length
    rw [List.take_length, List.take_of_length_le hle] at this
    simp [wval]
    rw [← this]
   ·intro x hx
    rcases List.mem_append.1 hx with hx | hx
    ·obtain ⟨k, -, rfl⟩ := List.mem_map.1 hx; exact o_ec _ _ _
    ·simp at hx; subst hx; have := o_e7 hsA hsB A.length; omega
  rw [hr]
  refine AW.freeze 3 1 ⟨194, _⟩ (ws.map fun x : Nat => .int .u64 x) (by rfl) (by simp) ?_
  simp [← hl, List.take_of_length_le]
  refine G0 ?_; try with_reducible exact tt
  refine CallS.pu (o_er ws hs (by omega)) (R0 ?_); try with_reducible exact tt
  refine Sub1.of ?_
  rw [hv]; rfl
 ·have hi' : i < A.length := by omega
  have hp : (i : Int) < A.length := by omega
  have hc := o_e7 hsA hsB i
  have hset := o_f2 (f := fun k => .int .u64 (addW A B k : Nat)) (n := A.length + 1) (i := i) (by omega)
  have ew : IntKind.i64.wrap ((i : Int) + 1) = (i : Int) + 1 := w64 (by omega) (by omega)
  refine G1 (fs hi' hp) ?_; try with_reducible exact tt
  refine AW.cond rfl (fun h => ?_) (fun h => ?_)
  ·clear h
   by_cases hb : i < B.length
   ·have e : A[i] + B[i] + carryW A B i = addW A B i + 18446744073709551616 * carryW A B (i + 1) := by
     rw [← o_ey, o_eq hi', o_eq hb]
    refine G1 (fs hi' (fs hp hb)) ?_; try with_reducible exact tt
    refine AW.cond rfl (fun h => ?_) (fun h => ?_)
    ·clear h
     refine G1 (fs hi' (fs hp hb)) ?_; try with_reducible exact tt
     refine CallS.pu (o_ew _ _ _ (addW A B i) (carryW A B (i + 1)) (hsA _ (List.getElem_mem _)) (hsB _ (List.getElem_mem _)) hc (o_ec _ _ _) e) (R1 (fs hset ew) ?_); try with_reducible exact tt
     exact ⟨i + 1, by omega, by omega, by simp [wk, ew], by simp [wkH]⟩
    ·simp [hb] at h
   ·have e : A[i] + 0 + carryW A B i = addW A B i + 18446744073709551616 * carryW A B (i + 1) := by
     rw [← o_ey, o_eq hi', o_ez hb]
    refine G1 (fs hi' (fs hp hb)) ?_; try with_reducible exact tt
    refine AW.cond rfl (fun h => ?_) (fun h => ?_)
    ·simp [hb] at h
    ·clear h
     refine G1 (fs hi' (fs hp hb)) ?_; try with_reducible exact tt
     refine CallS.pu (o_ew _ 0 _ (addW A B i) (carryW A B (i + 1)) (hsA _ (List.getElem_mem _)) (by omega) hc (o_ec _ _ _) e) (R1 (fs hset ew) ?_); try with_reducible exact tt
     exact ⟨i + 1, by omega, by omega, by simp [wk, ew], by simp [wkH]⟩
  ·simp at h
end
end Go.Proofs.YtmpjlkclkhnpfaaGreatDoor.Am
namespace Go.Proofs.YtmpjlkclkhnpfaaGreatDoor.Am
section
open Go.RowKit
theorem o_fa {a b : List Nat} (ha : small a) (hb : small b) (i : Nat) : a.getD i 0 + 18446744073709551616 * borrowW a b (i + 1) = subW a b i + b.getD i 0 + borrowW a b i := by
 have h1 := ha.getD i
 have h2 := hb.getD i
 have h3 := o_e9 a b i
 simp only [subW, borrowW]
 split <;> omega
theorem o_fb {a b : List Nat} (ha : small a) (hb : small b) (hl : b.length ≤ a.length) (h : wval b ≤ wval a) : wval ((List.range a.length).map (subW a b)) = wval a - wval b := by
 have h1 := o_ea ha hb a.length
 rw [List.take_length, List.take_of_length_le hl] at h1
 have h2 := o_e9 a b a.length
 have h3 := o_dn (o_eb (o_ed a b) a.length)
 rw [List.length_map, List.length_range] at h3
 have : borrowW a b a.length = 0 ∨ borrowW a b a.length = 1 := by omega
 rcases this with e | e
 ·rw [e] at h1; omega
 ·rw [e] at h1; omega
theorem o_fc {m n : Nat} (h : m ≤ n) : size m ≤ size n := by
 apply Nat.le_of_not_lt
 intro hlt
 have := o_eu hlt
 omega

theorem o_fd (m n : Nat) (hm : size m ≤ 1000000) (hle : n ≤ m) : Eqn Tryz.prog o_as [.d (.agg [natW m]), .d (.agg [natW n])] [] (.tup [.d (.agg [natW (m - n)]), .d (.int .i64 0)]) [] := by
 refine Eqn.pure o_au (o_f7 _ _) ?_
 have hs := o_fc hle
 simp only [o_at]
 refine G0 ?_; try with_reducible exact tt
 refine CallS.pu (o_ev m n hm (by omega)) (R0 ?_); try with_reducible exact tt
 have hc : ¬ cmpZ m n < 0 := by unfold cmpZ; split <;> (try split) <;> omega
 refine AW.cond rfl (fun h => ?_) (fun h => ?_)
 ·simp [hc] at h
 clear h
 refine G0 ?_; try with_reducible exact tt
 unfold size at hm hs
 obtain ⟨A, hA⟩ : ∃ A, A = words m := ⟨_, rfl⟩
 obtain ⟨B, hB⟩ : ∃ B, B = words n := ⟨_, rfl⟩
 have hsA : small A := hA ▸ o_ej m
 have hsB : small B := hB ▸ o_ej n
 have hvA : wval A = m := by rw [hA, o_ei]
 have hvB : wval B = n := by rw [hB, o_ei]
 rw [show natW m = .sl A.length (A.map fun x : Nat => .int .u64 x) by rw [hA]; rfl, show natW n = .sl B.length (B.map fun x : Nat => .int .u64 x) by rw [hB]; rfl]
 rw [← hA, ← hB] at hs
 rw [← hA] at hm
 clear hA hB
 refine G0 ?_; try with_reducible exact tt
 rw [out0 _ (fun k => .int .u64 (subW A B k : Nat))]
 refine AW.loopT (α := Nat) 4 (fun i => [(23, .d (.int .i64 (i : Int))), (7, .d (.int .u64 (borrowW A B i : Nat)))]) (fun i => [(3, ⟨194, rowV (fun k => .int .u64 (subW A B k : Nat)) A.length i⟩)]) (fun i => i ≤ A.length) (fun i => A.length - i) 0 ?_ ?_ (Nat.zero_le _) ?_ ?_ ?_
 ·simp
 ·simp
 ·simp [borrowW]
 ·simp
 rintro i hi
 simp
 by_cases h : i = A.length
 ·subst h
  refine G0 ?_; try with_reducible exact tt
  refine AW.cond rfl (fun h => ?_) (fun h => ?_)
  ·simp at h
  refine AW.exit ?_
  (try (simp -implicitDefEqProofs; try simp (disch := omega) only [w64, wu64]))
  obtain ⟨ws, hl, hr, hv, hs'⟩ : ∃ ws : List Nat, ws.length = A.length ∧ rowV (fun k => .int .u64 (subW A B k : Nat)) A.length A.length = U ws ∧ wval ws = m - n ∧ small ws := by
   refine ⟨(List.range A.length).map (subW A B), by simp, by rw [o_f6]; simp [U], ?_, o_eb (o_ed A B) _⟩
   rw [← hvA, ← hvB]
   exact o_fb hsA hsB hs (by omega)
  rw [hr]
  refine AW.freeze 3 1 ⟨194, _⟩ (ws.map fun x : Nat => .int .u64 x) (by rfl) (by simp) ?_
  simp [← hl, List.take_of_length_le]
  refine G0 ?_; try with_reducible exact tt
  refine CallS.pu (o_er ws hs' (by omega)) (R0 ?_); try with_reducible exact tt
  refine Sub1.of ?_
  rw [hv]
 ·have hi' : i < A.length := by omega
  have hp : (i : Int) < A.length := by omega
  have hc := o_e9 A B i
  have hset := o_f2 (f := fun k => .int .u64 (subW A B k : Nat)) (n := A.length) (i := i) (by omega)
  have ew : IntKind.i64.wrap ((i : Int) + 1) = (i : Int) + 1 := w64 (by omega) (by omega)
  have e := o_fa hsA hsB i
  refine G1 (fs hi' hp) ?_; try with_reducible exact tt
  refine AW.cond rfl (fun h => ?_) (fun h => ?_)
  ·clear h
   by_cases hb : i < B.length
   ·rw [← o_eq hi', ← o_eq hb] at e
    refine G1 (fs hi' (fs hp hb)) ?_; try with_reducible exact tt
    refine AW.cond rfl (fun h => ?_) (fun h => ?_)
    ·clear h
     refine G1 (fs hi' (fs hp hb)) ?_; try with_reducible exact tt
     refine CallS.pu (o_ex _ _ _ (subW A B i) (borrowW A B (i + 1)) (hsA _ (List.getElem_mem _)) (hsB _ (List.getElem_mem _)) hc (o_ed _ _ _) e) (R1 (fs hset ew) ?_); try with_reducible exact tt
     exact ⟨i + 1, by omega, by omega, by simp [wk, ew], by simp [wkH]⟩
    ·simp [hb] at h
   ·rw [← o_eq hi', o_ez hb] at e
    refine G1 (fs hi' (fs hp hb)) ?_; try with_reducible exact tt
    refine AW.cond rfl (fun h => ?_) (fun h => ?_)
    ·simp [hb] at h
    ·clear h
     refine G1 (fs hi' (fs hp hb)) ?_; try with_reducible exact tt
     refine CallS.pu (o_ex _ 0 _ (subW A B i) (borrowW A B (i + 1)) (hsA _ (List.getElem_mem _)) (by omega) hc (o_ed _ _ _) e) (R1 (fs hset ew) ?_); try with_reducible exact tt
     exact ⟨i + 1, by omega, by omega, by simp [wk, ew], by simp [wkH]⟩
  ·simp at h
end
end Go.Proofs.YtmpjlkclkhnpfaaGreatDoor.Am
namespace Go.Proofs.YtmpjlkclkhnpfaaGreatDoor.Am
section
open Go.RowKit
def rowM (k : Nat) (A : List Nat) (i : Nat) : List Nat := movedL k 0 (A.take i) ++ List.replicate (A.length - i) 0
theorem o_fe (k : Nat) (A : List Nat) (i : Nat) (h : i ≤ A.length) : (rowM k A i).length = A.length + 1 := by
 rw [rowM, List.length_append, o_dt, List.length_take, List.length_replicate]; omega
theorem o_ff (k : Nat) (A : List Nat) : rowM k A 0 = List.replicate (A.length + 1) 0 := by simp [rowM, movedL, List.replicate_succ]
theorem o_fg (k : Nat) (A : List Nat) : rowM k A A.length = movedL k 0 A := by simp [rowM]
theorem o_fh (k : Nat) (A : List Nat) (i : Nat) (h : i < A.length) : (rowM k A i).getD i 0 = movedC k 0 (A.take i) := by
 have e : i = (movedB k 0 (A.take i)).length := by rw [o_dx, List.length_take]; omega
 rw [rowM, o_dw, List.append_assoc, List.getD, List.getElem?_append_right (by omega), show i - (movedB k 0 (A.take i)).length = 0 by omega]
 rfl
theorem o_fi (k : Nat) (A : List Nat) (i : Nat) (h : i < A.length) : ((rowM k A i).set i (A.getD i 0 * 2 ^ k % 18446744073709551616 + movedC k 0 (A.take i))).set (i + 1) (A.getD i 0 * 2 ^ k / 18446744073709551616) = rowM k A (i + 1) := by
 have e : (movedB k 0 (A.take i)).length = i := by rw [o_dx, List.length_take]; omega
 obtain ⟨r, hr⟩ : ∃ r, A.length = i + r + 1 := ⟨A.length - i - 1, by omega⟩
 rw [rowM, rowM, o_dw, o_dw, o_do _ _ h, o_dy, o_dz, hr, show i + r + 1 - i = r + 1 by omega, show i + r + 1 - (i + 1) = r by omega, List.replicate_succ]
 simp only [List.append_assoc, List.cons_append, List.nil_append]
 rw [List.set_append_right _ _ (by omega), List.set_append_right _ _ (by omega), e]
 simp

def cellM (k : Nat) (A : List Nat) (i : Nat) : List V := U (rowM k A i)
@[simp] theorem o_fj (n : Nat) (l : List Nat) : V.lowl n (U l) = true := by induction l <;> simp_all [U, V.lowl, V.low]

set_option maxHeartbeats 1000000 in
theorem o_fk (A : List Nat) (k : Nat) (hk : k < 64) (hs : small A) (hn : A.length ≤ 1000000) : Eqn Tryz.prog o_cy [.d (W A), .d (.int .i64 k)] [] (.d (W (movedL k 0 A))) [] := by
 refine Eqn.pure o_d0 (o_58 _) ?_
 simp only [o_cz, W]
 refine G0 ?_; try with_reducible exact tt
 rw [show List.replicate (A.length + 1) (V.d (.int .u64 0)) = cellM k A 0 by rw [cellM, o_ff]; simp [U]]
 have hlow : ∀ i, V.lowl 1 (cellM k A i) = true := fun i => o_fj 1 _
 refine AW.loopT (α := Nat) 1 (fun i => [(14, .d (.int .i64 (i : Int)))]) (fun i => [(0, ⟨194, cellM k A i⟩)]) (fun i => i ≤ A.length) (fun i => A.length - i) 0 ?_ ?_ (Nat.zero_le _) ?_ ?_ ?_
 ·simp
 ·simp
 ·simp
 ·simp [hlow]
 rintro i hi
 simp
 by_cases h : i = A.length
 ·subst h
  refine G0 ?_; try with_reducible exact tt
  refine AW.cond rfl (fun h => ?_) (fun h => ?_)
  ·simp at h
  refine AW.exit ?_
  (try (simp -implicitDefEqProofs; try simp (disch := omega) only [w64, wu64]))
  have hl : (movedL k 0 A).length = A.length + 1 := o_dt _ _ _
  rw [cellM, o_fg]
  generalize movedL k 0 A = ws at hl
  refine AW.freeze 0 1 ⟨194, _⟩ (ws.map fun x : Nat => .int .u64 x) (by rfl) (by simp) ?_
  simp [← hl, List.take_of_length_le]
  refine G0 ?_; try with_reducible exact tt
 ·have hi' : i < A.length := by omega
  have hp : (i : Int) < A.length := by omega
  obtain ⟨c, y, u, hl, hq, hor, hw, hd, hset⟩ : ∃ c z u : Nat, (cellM k A i).length = A.length + 1 ∧ (cellM k A i)[i]? = some (.d (.int .u64 c)) ∧ bits BinOp.or IntKind.u64 (c : Int) (IntKind.u64.wrap ((A[i] : Int) * 2 ^ k)) = (z : Int) ∧
    True ∧ (A[i] : Int) / 2 ^ (64 - k) = (u : Int) ∧ ((cellM k A i).set i (.d (.int .u64 z))).set (i + 1) (.d (.int .u64 u)) = cellM k A (i + 1) := by
   have hl := o_fe k A i hi
   have hc := o_e1 (k := k) (l := A.take i) (c := 0) (hs.take i) (Nat.two_pow_pos k)
   have hset := o_fi k A i hi'
   rw [← o_eq hi'] at hset
   refine ⟨movedC k 0 (A.take i), A[i] * 2 ^ k % 18446744073709551616 + movedC k 0 (A.take i), A[i] * 2 ^ k / 18446744073709551616, by simp [cellM, U, hl], ?_, ?_, trivial, ?_, ?_⟩
   ·have := o_fh k A i hi'
    rw [List.getD, List.getElem?_eq_getElem (by omega)] at this
    rw [cellM, U, List.getElem?_map, List.getElem?_eq_getElem (by omega)]
    simp at this
    simp [this]
   ·rw [show IntKind.u64.wrap ((A[i] : Int) * 2 ^ k) = ((A[i] * 2 ^ k % 18446744073709551616 : Nat) : Int) by rw [IntKind.wrap_u64, Int.natCast_emod, Int.natCast_mul, Int.natCast_pow]; rfl]
    rw [bits_or_u64_nat _ _ (Nat.lt_of_lt_of_le hc (by rw [show (18446744073709551616 : Nat) = 2 ^ 64 by rfl]; exact Nat.pow_le_pow_right (by decide) (by omega))) (Nat.mod_lt _ (by decide)), o_e2 hk hc]
   ·rw [o_e3 (by omega), Int.natCast_ediv, Int.natCast_pow]; rfl
   ·rw [cellM, cellM, ← hset, U, U, List.map_set, List.map_set]
  have hn : ((64 : Int) - k).toNat = 64 - k := by omega
  have e1 : IntKind.i64.wrap ((i : Int) + 1) = (i : Int) + 1 := w64 (by omega) (by omega)
  have e2 : IntKind.i64.wrap ((64 : Int) - k) = (64 : Int) - k := w64 (by omega) (by omega)
  generalize cellM k A i = cm at hl hq hset
  refine G1 (fs hi' hp) ?_; try with_reducible exact tt
  refine AW.cond rfl (fun h => ?_) (fun h => ?_)
  ·clear h
   refine G1 (fs hi' (fs hp (fs hl (fs hq (fs hor (fs e1 (fs e2 (fs hn (fs hd hset))))))))) ?_; try with_reducible exact tt
   exact ⟨i + 1, by omega, by omega, by simp [wk], by simp [wkH, hlow]⟩
  ·simp at h
end
end Go.Proofs.YtmpjlkclkhnpfaaGreatDoor.Am
namespace Go.Proofs.YtmpjlkclkhnpfaaGreatDoor.Am
section
open Go.RowKit
theorem o_fl (n : Nat) : (words n).length = size n := rfl
end
end Go.Proofs.YtmpjlkclkhnpfaaGreatDoor.Am
namespace Go.Proofs.YtmpjlkclkhnpfaaGreatDoor.Am
section
open Go.RowKit
theorem o_fm {x : Nat} (h0 : 0 < x) (h : x < 18446744073709551616) : words x = [x] := by
 have := o_el (ws := [x]) (by intro y hy; simp at hy; omega) (by intro k hk; simp at hk; subst hk; simp; omega)
 simpa [wval] using this
theorem o_fn {x : Nat} (h : x < 18446744073709551616) : small [x] := by intro y hy; simp at hy; omega

theorem Sub1.tup {l r : List V} (h : Subs l r) : Sub1 (.tup l) (.tup r) := fun m v k => by
 unfold V.rep at k ⊢
 obtain ⟨vs, h1, h2⟩ := k
 exact ⟨vs, h1, h m vs h2⟩
theorem Subs.cons {x y : V} {l r : List V} (h : Sub1 x y) (h' : Subs l r) : Subs (x :: l) (y :: r) := fun m vs k => by
 obtain ⟨v, r, rfl, h1, h2⟩ := V.reps_cons'.1 k
 exact V.reps_cons.2 ⟨h m v h1, h' m r h2⟩
theorem Sub1.nat0 : Sub1 (.d (.agg [.nilsl])) (.d (.agg [natW 0])) := fun m v k => by
 rw [V.rep_d] at k ⊢
 unfold D.rep at k ⊢
 obtain ⟨vs, h1, h2, h3⟩ := k
 refine ⟨vs, h1, h2, ?_⟩
 obtain ⟨u, r, rfl, h4, h5⟩ := D.reps_cons'.1 h3
 have := (V.rep_d (m := m)).1 (Sub1.nil m u (V.rep_d.2 h4))
 exact D.reps_cons.2 ⟨this, h5⟩

theorem o_fo {m n : Nat} : cmpZ m n < 0 ↔ m < n := by unfold cmpZ; split <;> (try split) <;> omega
theorem o_fp (x y : Nat) (hx : x < 18446744073709551616) (h0 : 0 < y) : Eqn Tryz.prog o_bv [.d (.int .u64 0), .d (.int .u64 x), .d (.int .u64 y)] [] (.tup [.d (.int .u64 (x / y : Nat)), .d (.int .u64 (x % y : Nat))]) [] := by
 refine Eqn.pure o_bx (o_f7 _ _) ?_
 simp only [o_bw]
 have h1 : ¬ (y : Int) = 0 := by omega
 have h1' : ¬ y = 0 := by omega
 have h2 : ¬ (y : Int) ≤ 0 := by omega
 refine G1 (fs h1 (fs h2 h1')) ?_; try with_reducible exact tt
 refine AW.cond rfl (fun h => ?_) (fun h => ?_)
 ·simp [h1'] at h
 refine G1 (fs h1 (fs h2 h1')) ?_; try with_reducible exact tt
 refine AW.cond rfl (fun h => ?_) (fun h => ?_)
 ·simp [h1', h2] at h
 refine G1 (fs h1 (fs h2 h1')) ?_; try with_reducible exact tt
 refine AW.cond rfl (fun h => ?_) (fun h => ?_)
 ·have hle := Nat.div_le_self x y
  have e1 : IntKind.u64.wrap ((x : Int) / y) = (x : Int) / y := by
   rw [← Int.natCast_ediv]
   generalize x / y = q at *
   exact wu64 (by omega) (by omega)
  have e2 : (x : Int).tmod y = ((x % y : Nat) : Int) := by rw [Int.tmod_eq_emod_of_nonneg (by omega)]; rfl
  refine G1 (fs h1 (fs h2 (fs h1' (fs e1 e2)))) ?_; try with_reducible exact tt
 ·simp at h

theorem o_fq (x y : Nat) (hx : x < 18446744073709551616) (h0 : 0 < y) (hy : y < 18446744073709551616) : Eqn Tryz.prog o_a7 [.d (.sl 1 [.int .u64 x]), .d (.int .u64 y)] [] (.tup [.d (.sl 1 [.int .u64 (x / y : Nat)]), .d (.int .u64 (x % y : Nat))]) [] := by
 refine Eqn.pure o_a9 (o_f7 _ _) ?_
 simp only [o_a8]
 refine G0 ?_; try with_reducible exact tt
 refine AW.loopT (α := Nat) 1 (fun i => [(8, .d (.int .i64 ((i : Int) - 1))), (7, .d (.int .u64 (if i = 0 then (x % y : Nat) else 0)))]) (fun i => [(0, ⟨194, [.d (.int .u64 (if i = 0 then (x / y : Nat) else 0))]⟩)]) (fun i => i ≤ 1) (fun i => i) 1 ?_ ?_ (Nat.le_refl _) ?_ ?_ ?_
 ·simp
 ·simp
 ·simp
 ·simp
 rintro i hi
 simp
 cases i with
 | zero =>
  refine G0 ?_; try with_reducible exact tt
  refine AW.cond rfl (fun h => ?_) (fun h => ?_)
  ·simp at h
  refine AW.exit ?_
  (try (simp -implicitDefEqProofs; try simp (disch := omega) only [w64, wu64]))
  refine AW.freeze 0 1 ⟨194, _⟩ [.int .u64 (x / y : Nat)] (by rfl) (by simp) ?_
  simp
  refine G0 ?_; try with_reducible exact tt
 | succ i =>
  obtain rfl : i = 0 := by omega
  refine G0 ?_; try with_reducible exact tt
  refine AW.cond rfl (fun h => ?_) (fun h => ?_)
  ·refine G0 ?_; try with_reducible exact tt
   refine CallS.pu (o_fp x y hx h0) (R0 ?_); try with_reducible exact tt
   exact ⟨0, by omega, rfl, by simp, by simp⟩
  ·simp at h
end
end Go.Proofs.YtmpjlkclkhnpfaaGreatDoor.Am
namespace Go.Proofs.YtmpjlkclkhnpfaaGreatDoor.Am
section
open Go.RowKit
theorem o_fr {x : Nat} (h : x < 18446744073709551616) : size x ≤ 1 := by
 rw [size]
 rcases Nat.eq_zero_or_pos x with rfl | h0
 ·simp [words, wordsF]
 ·rw [o_fm h0 h]; simp

theorem o_fs (a : Nat) : Eqn Tryz.prog o_9s [.d (.bool false), .d (.agg [natW a])] [] (.d (.agg [natW a, .bool false])) [] := by
 refine Eqn.pure o_9u (o_58 _) ?_
 simp only [o_9t]
 refine G0 ?_; try with_reducible exact tt

theorem o_ft (a : Nat) (s : Bool) : Eqn Tryz.prog o_9p [.d (.agg [natW a, .bool s])] [] (.d (.agg [natW a])) [] := by
 refine Eqn.pure o_9r (o_58 _) ?_
 simp only [o_9q]
 refine G0 ?_; try with_reducible exact tt

theorem o_fu (a : Nat) (s : Bool) : Eqn Tryz.prog o_9v [.d (.agg [natW a, .bool s])] [] (.d (.bool s)) [] := by
 refine Eqn.pure o_9x (o_58 _) ?_
 simp only [o_9w]
 refine G0 ?_; try with_reducible exact tt

theorem o_fv (n : Nat) (h : n < 9223372036854775808) : Eqn Tryz.prog o_8g [.d (.int .i64 n)] [] (.d (.agg [natW n, .bool false])) [] := by
 refine Eqn.pure o_8i (o_58 _) ?_
 simp only [o_8h]
 have h0 : ¬ (n : Int) < 0 := by omega
 refine G0 ?_; try with_reducible exact tt
 refine AW.cond rfl (fun h => ?_) (fun h => ?_)
 ·simp [h0] at h
 have e : IntKind.u64.wrap (n : Int) = n := wu64 (by omega) (by omega)
 refine G1 e ?_; try with_reducible exact tt
 refine CallS.pf 1 1 ⟨194, _⟩ [.int .u64 n] (o_es [n] (o_fn (by omega)) (by simp)) (by first | rfl | (simp; done)) (R0 ?_); try with_reducible exact tt
 refine CallS.pu (o_fs n) (R0 ?_); try with_reducible exact tt

theorem o_fw (a d : Nat) (s : Bool) (h : size d ≤ 1000000) : Eqn Tryz.prog o_81 [.d (.agg [natW a, .bool s, natW d])] [] (.d (.agg [natW (d + 1)])) [] := by
 refine Eqn.pure o_83 (o_58 _) ?_
 simp only [o_82]
 refine G0 ?_; try with_reducible exact tt
 refine CallS.pf 2 1 ⟨194, _⟩ [.int .u64 (1 : Nat)] (o_es [1] (o_fn (by omega)) (by simp)) (by first | rfl | (simp; done)) (R0 ?_); try with_reducible exact tt
 refine CallS.pu (o_f9 d 1 h (by have := o_fr (x := 1) (by omega); omega)) (R0 ?_); try with_reducible exact tt
theorem o_fx (a d : Nat) (s : Bool) : Eqn Tryz.prog o_7v [.d (.agg [natW a, .bool s, natW d])] [] (.d (.bool (d == 0))) [] := by
 refine Eqn.pure o_7x (o_58 _) ?_
 simp only [o_7w]
 refine G0 ?_; try with_reducible exact tt
 refine CallS.pu (o_et d) (R0 ?_); try with_reducible exact tt
end
end Go.Proofs.YtmpjlkclkhnpfaaGreatDoor.Am
namespace Go.Proofs.YtmpjlkclkhnpfaaGreatDoor.Am
section
open Go.RowKit
def lit1 : ByteArray := ⟨#[48, 49, 50, 51, 52, 53, 54, 55, 56, 57, 97, 98, 99, 100, 101, 102, 103, 104, 105, 106, 107, 108, 109, 110, 111, 112, 113, 114, 115, 116, 117, 118, 119, 120, 121, 122]⟩
def lit2 : ByteArray := ⟨#[48, 48, 48, 49, 48, 50, 48, 51, 48, 52, 48, 53, 48, 54, 48, 55, 48, 56, 48, 57, 49, 48, 49, 49, 49, 50, 49, 51, 49, 52, 49, 53, 49, 54, 49, 55, 49, 56, 49, 57, 50, 48, 50, 49, 50, 50, 50, 51, 50, 52, 50, 53, 50, 54, 50, 55, 50, 56, 50, 57, 51, 48, 51, 49, 51, 50, 51, 51, 51, 52, 51, 53, 51, 54, 51, 55, 51, 56, 51, 57, 52, 48, 52, 49, 52, 50, 52, 51, 52, 52, 52, 53, 52, 54, 52, 55, 52, 56, 52, 57, 53, 48, 53, 49, 53, 50, 53, 51, 53, 52, 53, 53, 53, 54, 53, 55, 53, 56, 53, 57, 54, 48, 54, 49, 54, 50, 54, 51, 54, 52, 54, 53, 54, 54, 54, 55, 54, 56, 54, 57, 55, 48, 55, 49, 55, 50, 55, 51, 55, 52, 55, 53, 55, 54, 55, 55, 55, 56, 55, 57, 56, 48, 56, 49, 56, 50, 56, 51, 56, 52, 56, 53, 56, 54, 56, 55, 56, 56, 56, 57, 57, 48, 57, 49, 57, 50, 57, 51, 57, 52, 57, 53, 57, 54, 57, 55, 57, 56, 57, 57]⟩
theorem o_fy : lit1.size = 36 := by kernel_rfl
theorem o_fz : lit2.size = 200 := by kernel_rfl
def smallS (n : Nat) : ByteArray := if n < 10 then lit1.extract n (n + 1) else lit2.extract (n * 2) (n * 2 + 2)

theorem o_g0 (n : Nat) (h : n < 100) : Eqn Tryz.prog o_cm [.d (.int .i64 n)] [] (.d (.str (smallS n))) [] := by
 refine Eqn.pure o_co (o_58 _) ?_
 simp only [o_cn]
 rw [show (⟨#[48, 49, 50, 51, 52, 53, 54, 55, 56, 57, 97, 98, 99, 100, 101, 102, 103, 104, 105, 106, 107, 108, 109, 110, 111, 112, 113, 114, 115, 116, 117, 118, 119, 120, 121, 122]⟩ : ByteArray) = lit1 from rfl, show (⟨#[48, 48, 48, 49, 48, 50, 48, 51, 48, 52, 48, 53, 48, 54, 48, 55, 48, 56, 48, 57, 49, 48, 49, 49, 49, 50, 49, 51, 49, 52, 49, 53, 49, 54, 49, 55, 49, 56, 49, 57, 50, 48, 50, 49, 50, 50, 50, 51, 50, 52, 50, 53, 50, 54, 50, 55, 50, 56, 50, 57, 51, 48, 51, 49, 51, 50, 51, 51, 51, 52, 51, 53, 51, 54, 51, 55, 51, 56, 51, 57, 52, 48, 52, 49, 52, 50, 52, 51, 52, 52, 52, 53, 52, 54, 52, 55, 52, 56, 52, 57, 53, 48, 53, 49, 53, 50, 53, 51, 53, 52, 53, 53, 53, 54, 53, 55, 53, 56, 53, 57, 54, 48, 54, 49, 54, 50, 54, 51, 54, 52, 54, 53, 54, 54, 54, 55, 54, 56, 54, 57, 55, 48, 55, 49, 55, 50, 55, 51, 55, 52, 55, 53, 55, 54, 55, 55, 55, 56, 55, 57, 56, 48, 56, 49, 56, 50, 56, 51, 56, 52, 56, 53, 56, 54, 56, 55, 56, 56, 56, 57, 57, 48, 57, 49, 57, 50, 57, 51, 57, 52, 57, 53, 57, 54, 57, 55, 57, 56, 57, 57]⟩ : ByteArray) = lit2 from rfl]
 have e1 := o_fy
 have e2 := o_fz
 generalize hl1 : lit1 = l1 at *
 generalize hl2 : lit2 = l2 at *
 by_cases hs : n < 10
 ·have hs' : (n : Int) < 10 := by omega
  refine G1 hs' ?_; try with_reducible exact tt
  refine AW.cond rfl (fun h => ?_) (fun h => ?_)
  ·have ew : IntKind.i64.wrap ((n : Int) + 1) = (n : Int) + 1 := w64 (by omega) (by omega)
   refine G1 (fs ew e1) ?_; try with_reducible exact tt
   refine Sub1.of ?_
   rw [smallS, if_pos hs, hl1]
  ·simp [hs] at h
 ·have hs' : ¬ (n : Int) < 10 := by omega
  refine G1 hs' ?_; try with_reducible exact tt
  refine AW.cond rfl (fun h => ?_) (fun h => ?_)
  ·simp [hs] at h
  ·have ew : IntKind.i64.wrap ((n : Int) * 2) = (n : Int) * 2 := w64 (by omega) (by omega)
   have ew2 : IntKind.i64.wrap ((n : Int) * 2 + 2) = (n : Int) * 2 + 2 := w64 (by omega) (by omega)
   refine G1 (fs ew (fs ew2 e2)) ?_; try with_reducible exact tt
   refine Sub1.of ?_
   rw [smallS, if_neg hs, hl2, show ((n : Int) * 2).toNat = n * 2 by omega, show ((n : Int) * 2 + 2).toNat = n * 2 + 2 by omega]

theorem o_g1 (n : Nat) : (smallS n).size ≤ 2 := by
 unfold smallS
 split <;> rw [ByteArray.size_extract] <;> omega
@[simp] theorem o_g2 : ByteArray.size ⟨#[]⟩ = 0 := rfl
@[simp] theorem o_g3 : ByteArray.size ⟨#[47]⟩ = 1 := rfl
theorem o_g4 (s : ByteArray) : s ++ (⟨#[]⟩ : ByteArray) = s := by
 exact ByteArray.append_empty
theorem o_g5 (n : Nat) (h : n < 100) : Eqn Tryz.prog o_by [.d (.int .u64 n), .d (.int .i64 10)] [] (.d (.str (smallS n))) [] := by
 refine Eqn.pure o_c0 (o_58 _) ?_
 simp only [o_bz]
 have h1 : (n : Int) < 100 := by omega
 refine G1 h1 ?_; try with_reducible exact tt
 refine AW.cond rfl (fun h => ?_) (fun h => ?_)
 ·refine G1 h1 ?_; try with_reducible exact tt
  refine AW.cond rfl (fun h => ?_) (fun h => ?_)
  ·have e : IntKind.i64.wrap (n : Int) = n := w64 (by omega) (by omega)
   refine G1 e ?_; try with_reducible exact tt
   refine CallS.pu (o_g0 n (by omega)) (R0 ?_); try with_reducible exact tt
  ·simp [h1] at h
 ·simp at h

theorem o_g6 (n : Nat) (h : n < 100) : Eqn Tryz.prog o_ad [.d (.int .u64 n), .d (.int .i64 10)] [] (.d (.str (smallS n))) [] := by
 refine Eqn.pure o_af (o_58 _) ?_
 simp only [o_ae]
 refine G0 ?_; try with_reducible exact tt
 refine CallS.pu (o_g5 n h) (R0 ?_); try with_reducible exact tt

theorem o_g7 (n : Nat) (h : n < 100) : Eqn Tryz.prog o_84 [.d (.agg [natW n])] [] (.d (.str (smallS n))) [] := by
 refine Eqn.pure o_86 (o_58 _) ?_
 simp only [o_85]
 refine G0 ?_; try with_reducible exact tt
 refine CallS.pu (o_et n) (R0 ?_); try with_reducible exact tt
 rcases Nat.eq_zero_or_pos n with rfl | h0
 ·refine AW.cond rfl (fun h => ?_) (fun h => ?_)
  ·refine G0 ?_; try with_reducible exact tt
   exact Sub1.of (by kernel_rfl)
  ·simp at h
 have e : natW n = .sl 1 [.int .u64 n] := by rw [natW, o_fm h0 (by omega)]; rfl
 have hz : ¬ n = 0 := by omega
 refine AW.cond rfl (fun h => ?_) (fun h => ?_)
 ·simp [hz] at h
 refine G1 e ?_; try with_reducible exact tt
 refine AW.loopT (α := Nat) 1 (fun i => [(4, .d (if i = 0 then .sl 0 [] else .sl 1 [.int .u64 n])), (3, .d (if i = 0 then .str (smallS n) else .str ⟨#[]⟩))]) (fun i => []) (fun i => i ≤ 1) (fun i => i) 1 ?_ ?_ (Nat.le_refl _) ?_ ?_ ?_
 ·simp
 ·simp
 ·simp
 ·simp
 rintro i hi
 simp
 cases i with
 | zero =>
  refine G0 ?_; try with_reducible exact tt
  refine AW.cond rfl (fun h => ?_) (fun h => ?_)
  ·simp at h
  refine G0 ?_; try with_reducible exact tt
 | succ i =>
  obtain rfl : i = 0 := by omega
  refine G0 ?_; try with_reducible exact tt
  refine AW.cond rfl (fun h => ?_) (fun h => ?_)
  ·refine G0 ?_; try with_reducible exact tt
   have hs := o_fq n 1000000000000000000 (by omega) (by omega) (by omega)
   rw [show n / 1000000000000000000 = 0 by omega, show n % 1000000000000000000 = n by omega] at hs
   refine CallS.pu (hs) (R0 ?_); try with_reducible exact tt
   have ht := o_er [0] (o_fn (by omega)) (by simp)
   rw [show wval [0] = 0 by rfl] at ht
   refine CallS.pu (ht) (R0 ?_); try with_reducible exact tt
   refine CallS.pu (o_g6 n (by omega)) ?_
   (try (simp -implicitDefEqProofs [o_eo]; try simp (disch := omega) only [w64, wu64]))
   repeat (first | refine AW.seq ?_ | refine AW.block ?_ | (refine AW.reg mix ?_; simp -implicitDefEqProofs [o_eo]; try simp (disch := omega) only [w64, wu64]) | (refine need.of (by first | omega | kernel_rfl) ?_) | (refine AW.fin ?_; try simp -implicitDefEqProofs [o_eo]))
   refine AW.cond rfl (fun h => ?_) (fun h => ?_)
   ·simp at h
   have s1 := o_g1 n
   have sn := o_g4 (smallS n)
   repeat (first | refine AW.seq ?_ | refine AW.block ?_ | (refine AW.reg mix ?_; simp -implicitDefEqProofs [o_eo, sn]; try simp (disch := omega) only [w64, wu64]) | (refine need.of (by first | omega | kernel_rfl) ?_) | (refine AW.fin ?_; try simp -implicitDefEqProofs [o_eo, sn]))
   exact ⟨0, by omega, rfl, by simp [sn], by simp⟩
  ·simp at h

theorem o_g8 (n : Nat) (h : n < 100) : Eqn Tryz.prog o_7y [.d (.agg [natW n, .bool false])] [] (.d (.str (smallS n))) [] := by
 refine Eqn.pure o_80 (o_58 _) ?_
 simp only [o_7z]
 refine G0 ?_; try with_reducible exact tt
 refine AW.cond rfl (fun h => ?_) (fun h => ?_)
 ·simp at h
 refine G0 ?_; try with_reducible exact tt
 refine CallS.pu (o_g7 n (by omega)) (R0 ?_); try with_reducible exact tt

theorem o_g9 (n d : Nat) (h : n < 100) (hd : d + 1 < 100) (h0 : d ≠ 0) : Eqn Tryz.prog o_6s [.d (.agg [natW n, .bool false, natW d])] [] (.d (.str (smallS n ++ ⟨#[47]⟩ ++ smallS (d + 1)))) [] := by
 refine Eqn.pure o_6u (o_58 _) ?_
 simp only [o_6t]
 have s1 := o_g1 n
 have s2 := o_g1 (d + 1)
 refine G0 ?_; try with_reducible exact tt
 refine CallS.pu (o_fx n d false) (R0 ?_); try with_reducible exact tt
 refine AW.cond rfl (fun h => ?_) (fun h => ?_)
 ·simp [h0] at h
 refine G0 ?_; try with_reducible exact tt
 refine CallS.pu (o_g8 n (by omega)) (R0 ?_); try with_reducible exact tt
 refine CallS.pu (o_fw n d false (by have := o_fr (x := d) (by omega); omega)) (R0 ?_); try with_reducible exact tt
 refine CallS.pu (o_g7 (d + 1) hd) (R0 ?_); try with_reducible exact tt
end
end Go.Proofs.YtmpjlkclkhnpfaaGreatDoor.Am
namespace Go.Proofs.YtmpjlkclkhnpfaaGreatDoor.Am
section
def padN : Nat → Nat → List Nat
 | 0, _ => []
 | w + 1, n => padN w (n / 10) ++ [48 + n % 10]
theorem o_ga : ∀ w n, (padN w n).length = w
 | 0, _ => rfl
 | w + 1, n => by rw [padN, List.length_append, o_ga w]; rfl
theorem o_gb (a : Nat) : ∀ b n, padN (a + b) n = padN a (n / 10 ^ b) ++ padN b n
 | 0, n => by simp [padN]
 | b + 1, n => by
  rw [← Nat.add_assoc, padN, padN, o_gb a b, Nat.div_div_eq_div_mul, Nat.pow_succ, Nat.mul_comm 10, List.append_assoc]
theorem o_gc (u : Nat) : padN 4 u = [48 + u / 1000 % 10, 48 + u / 100 % 10, 48 + u / 10 % 10, 48 + u % 10] := by
 simp [padN, Nat.div_div_eq_div_mul]
theorem o_gd (u : Nat) : padN 2 u = [48 + u / 10 % 10, 48 + u % 10] := by simp [padN]
theorem o_ge : ∀ w, padN w 0 = List.replicate w 48
 | 0 => rfl
 | w + 1 => by rw [padN, Nat.zero_div, o_ge w, ← List.replicate_succ']
theorem o_gf (a b n : Nat) (h : n < 10 ^ b) : padN (a + b) n = List.replicate a 48 ++ padN b n := by
 rw [o_gb, Nat.div_eq_of_lt h, o_ge]
theorem o_gg : ∀ w n, padN w (n % 10 ^ w) = padN w n
 | 0, _ => rfl
 | w + 1, n => by
  rw [padN, padN]
  have e1 : n % 10 ^ (w + 1) / 10 = n / 10 % 10 ^ w := by rw [Nat.pow_succ, Nat.mul_comm, Nat.mod_mul_right_div_self]
  have e2 : n % 10 ^ (w + 1) % 10 = n % 10 := by rw [Nat.pow_succ, Nat.mul_comm, Nat.mod_mul_right_mod]
  rw [e1, e2, o_gg w]
def ndig (n : Nat) : Nat := if n < 10 then 1 else ndig (n / 10) + 1
termination_by n
decreasing_by omega
theorem o_gh : ∀ (k n : Nat), 10 ^ k ≤ n → n < 10 ^ (k + 1) → ndig n = k + 1
 | 0, n, _, h2 => by rw [ndig, if_pos (by simpa using h2)]
 | k + 1, n, h1, h2 => by
  have h10 : 10 ≤ n := Nat.le_trans (by rw [Nat.pow_succ]; have : 0 < 10 ^ k := Nat.pow_pos (by decide); omega) h1
  rw [ndig, if_neg (by omega), o_gh k (n / 10) (by rw [Nat.pow_succ] at h1; omega) (by rw [Nat.pow_succ] at h2; omega)]
theorem o_gi (n : Nat) : 0 < ndig n := by rw [ndig]; split <;> omega
theorem o_gj : ∀ n : Nat, n < 10 ^ ndig n := by
 intro n
 induction n using Nat.strongRecOn with
 | _ n ih =>
  rw [ndig]
  split
  ·simpa using ‹n < 10›
  ·have := ih (n / 10) (by omega)
   rw [Nat.pow_succ]; omega
theorem o_gk : ∀ (n k : Nat), n < 10 ^ k → 0 < k → ndig n ≤ k := by
 intro n
 induction n using Nat.strongRecOn with
 | _ n ih =>
  intro k h hk
  rw [ndig]
  split
  ·exact hk
  ·obtain ⟨j, rfl⟩ : ∃ j, k = j + 1 := ⟨k - 1, by omega⟩
   rcases Nat.eq_zero_or_pos j with rfl | hj
   ·simp at h; omega
   ·have := ih (n / 10) (by omega) j (by rw [Nat.pow_succ] at h; omega) hj
    omega
theorem o_gl : ∀ (k n : Nat), 0 < n / 10 ^ k → ndig n = ndig (n / 10 ^ k) + k
 | 0, n, _ => by simp
 | k + 1, n, h => by
  have h1 : n / 10 ^ (k + 1) = n / 10 / 10 ^ k := by rw [Nat.pow_succ, Nat.mul_comm, Nat.div_div_eq_div_mul]
  have h2 : 10 ≤ n := by
   rcases Nat.lt_or_ge n 10 with h3 | h3
   ·rw [h1, show n / 10 = 0 by omega, Nat.zero_div] at h; omega
   ·exact h3
  rw [ndig, if_neg (by omega), o_gl k (n / 10) (by rw [← h1]; exact h), h1]; omega
def decN (n : Nat) : List Nat := padN (ndig n) n
theorem o_gm (k n : Nat) (h : 0 < n / 10 ^ k) : decN n = decN (n / 10 ^ k) ++ padN k n := by
 rw [decN, o_gl k n h, o_gb, decN]
theorem o_gn (n k : Nat) (h : n < 10 ^ k) (hk : 0 < k) : List.replicate (k - (decN n).length) 48 ++ decN n = padN k n := by
 have h1 := o_gk n k h hk
 rw [decN, o_ga, ← o_gf _ _ _ (o_gj n), show k - ndig n + ndig n = k by omega]
def bst (l : List Nat) : ByteArray := ⟨(l.map UInt8.ofNat).toArray⟩
def txt (n : Nat) : ByteArray := bst (decN n)
theorem o_go (a b : List Nat) : bst a ++ bst b = bst (a ++ b) := by
 unfold bst
 apply ByteArray.ext
 rw [ByteArray.data_append]
 simp
@[simp] theorem o_gp (l : List Nat) : (bst l).size = l.length := by
 show ((l.map UInt8.ofNat).toArray).size = _
 simp
theorem o_gq : bst [] = ⟨#[]⟩ := rfl
theorem o_gr (n : Nat) : (decN n).length = ndig n := o_ga _ _
theorem o_gs (n b : Nat) (h0 : 2 ^ (b - 1) ≤ n) (h1 : n < 2 ^ b) (hb : 0 < b) (hb2 : b ≤ 64) : b * 78913 / 262144 ≤ 19 ∧ ndig n = b * 78913 / 262144 + if 10 ^ (b * 78913 / 262144) ≤ n then 1 else 0 := by
 have key : ∀ b ∈ List.range 65, b * 78913 / 262144 ≤ 19 ∧ 2 ^ b ≤ 10 ^ (b * 78913 / 262144 + 1) ∧ (b * 78913 / 262144 = 0 ∨ 10 ^ (b * 78913 / 262144 - 1) ≤ 2 ^ (b - 1)) := by decide
 obtain ⟨k1, k2, k3⟩ := key b (by simp; omega)
 refine ⟨k1, ?_⟩
 generalize b * 78913 / 262144 = k at *
 by_cases h : 10 ^ k ≤ n
 ·rw [if_pos h, o_gh k n h (Nat.lt_of_lt_of_le h1 k2)]
 ·rw [if_neg h]
  rcases k3 with k3 | k3
  ·subst k3
   have : 0 < 2 ^ (b - 1) := Nat.pow_pos (by decide)
   simp at h; omega
  ·have hk : 0 < k := by
    rcases Nat.eq_zero_or_pos k with rfl | hk
    ·have : 0 < 2 ^ (b - 1) := Nat.pow_pos (by decide)
     simp at h; omega
    ·exact hk
   obtain ⟨j, rfl⟩ : ∃ j, k = j + 1 := ⟨k - 1, by omega⟩
   rw [o_gh j n (by simpa using Nat.le_trans k3 h0) (by omega)]
theorem o_gt (A R : List Nat) (m x : Nat) : (A ++ (List.replicate (m + 1) 0 ++ R)).set (A.length + m) x = A ++ (List.replicate m 0 ++ x :: R) := by
 rw [List.set_append_right _ _ (by omega), Nat.add_sub_cancel_left, List.set_append_left _ _ (by simp), List.replicate_succ', List.set_append_right _ _ (by simp)]
 simp
end
end Go.Proofs.YtmpjlkclkhnpfaaGreatDoor.Am
namespace Go.Proofs.YtmpjlkclkhnpfaaGreatDoor.Am
section
def bitsN (n : Nat) : Nat := if n = 0 then 0 else Nat.log2 n + 1
theorem o_gu (n : Nat) : n < 2 ^ bitsN n := by
 unfold bitsN
 split
 ·omega
 ·exact Nat.lt_log2_self
theorem o_gv {n k : Nat} (h : n < 2 ^ k) : bitsN n ≤ k := by
 unfold bitsN
 split
 ·omega
 ·rename_i h0
  have := (Nat.log2_lt h0).2 h
  omega
def moreY (s t : Nat) : Nat := t + (if t / 2 ^ s * 2 ^ s < t then t / 2 ^ s + 1 else t / 2 ^ s)
def shiftY (s t : Nat) : Nat := bitsN t - 1 - 2 * s
structure Pl where
 x : Nat
 shift : Nat
 value : Nat
 reply : Nat
def nextY (s : Nat) (p : Pl) : Pl := if p.reply ≤ p.value + 2 ^ p.shift then ⟨p.x + 1, shiftY s (moreY s p.reply), p.value + 2 ^ p.shift, moreY s p.reply⟩ else ⟨p.x, p.shift, p.value + 2 ^ p.shift, p.reply⟩
def placeY (s : Nat) : Nat → Pl
 | 0 => ⟨0, 0, 0, 2 ^ (2 * s)⟩
 | k + 1 => nextY s (placeY s k)

theorem o_gw {n k : Nat} (h : 2 ^ k ≤ n) : bitsN n = k + bitsN (n / 2 ^ k) := by
 have hp := Nat.two_pow_pos k
 have hq : 0 < n / 2 ^ k := Nat.div_pos h hp
 have h1 := o_gu (n / 2 ^ k)
 have h2 : 2 ^ (bitsN (n / 2 ^ k) - 1) ≤ n / 2 ^ k := by
  unfold bitsN
  rw [if_neg (by omega), Nat.add_sub_cancel]
  exact Nat.log2_self_le (by omega)
 have h3 : 0 < bitsN (n / 2 ^ k) := by unfold bitsN; rw [if_neg (by omega)]; omega
 apply Nat.le_antisymm
 ·apply o_gv
  rw [Nat.pow_add, Nat.mul_comm]
  exact (Nat.div_lt_iff_lt_mul hp).1 h1
 ·apply Nat.le_of_not_lt
  intro hlt
  have h4 := o_gu n
  have h5 : 2 ^ bitsN n ≤ 2 ^ (k + (bitsN (n / 2 ^ k) - 1)) := Nat.pow_le_pow_right (by omega) (by omega)
  rw [Nat.pow_add] at h5
  have h6 : 2 ^ k * 2 ^ (bitsN (n / 2 ^ k) - 1) ≤ n := by
   rw [Nat.mul_comm]; exact Nat.le_trans (Nat.mul_le_mul_right _ h2) (Nat.div_mul_le_self _ _)
  omega
theorem o_gx {n : Nat} (h : 0 < n) : 2 ^ (bitsN n - 1) ≤ n ∧ 0 < bitsN n := by
 unfold bitsN
 rw [if_neg (by omega), Nat.add_sub_cancel]
 exact ⟨Nat.log2_self_le (by omega), by omega⟩
end
end Go.Proofs.YtmpjlkclkhnpfaaGreatDoor.Am
