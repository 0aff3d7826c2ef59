/- Parts of the proof: AmTac. -/
import Derived.Test.YtmpjlkclkhnpfaaGreatDoorPb
set_option linter.unusedVariables false
set_option linter.unusedSimpArgs false
set_option maxRecDepth 100000
namespace Go.Proofs.YtmpjlkclkhnpfaaGreatDoor.Am
section
open Go.RowKit
inductive Tri : Prop → Prop
 | tt : Tri True
 | any (p : Prop) : Tri p
structure Hid (p : Prop) : Prop where
 v : p
theorem tt : True := True.intro
theorem fs {a b : Prop} (x : a) (y : b) : a ∧ b := And.intro x y
theorem G0 {q p : Prop} (hp : p) (h : (Hid p → q) ∧ Tri p := by
 constructor
 ·intro hp
  repeat (first | refine AW.seq ?_ | refine AW.block ?_ | (refine AW.reg mix ?_; (simp -implicitDefEqProofs; try simp (disch := omega) only [w64, wu64])) | (refine need.of (by first | omega | kernel_rfl) ?_) | (refine AW.fin ?_; try (simp -implicitDefEqProofs; try simp (disch := omega) only [w64, wu64])))
  try exact hp.v
 ·with_reducible first | exact Tri.tt | exact Tri.any _) : q := (h).1 ⟨hp⟩
theorem R0 {q p : Prop} (hp : p) (h : (Hid p → q) ∧ Tri p := by
 constructor
 ·intro hp
  try (simp -implicitDefEqProofs; try simp (disch := omega) only [w64, wu64])
  repeat (first | refine AW.seq ?_ | refine AW.block ?_ | (refine AW.reg mix ?_; (simp -implicitDefEqProofs; try simp (disch := omega) only [w64, wu64])) | (refine need.of (by first | omega | kernel_rfl) ?_) | (refine AW.fin ?_; try (simp -implicitDefEqProofs; try simp (disch := omega) only [w64, wu64])))
  try exact hp.v
 ·with_reducible first | exact Tri.tt | exact Tri.any _) : q := (h).1 ⟨hp⟩
theorem A00 {q p : Prop} (hp : p) (h : (Hid p → q) ∧ Tri p := by
 constructor
 ·intro hp
  repeat (first | refine AW.seq ?_ | refine AW.block ?_ | (refine AW.reg mix ?_; (simp -implicitDefEqProofs; try simp (disch := omega) only [w64, wu64])) | (refine need.of (by first | omega | kernel_rfl) ?_) | (refine AW.fin ?_; try (simp -implicitDefEqProofs; try simp (disch := omega) only [w64, wu64])) | (refine AW.cond rfl ?_ (fun _ => ?_); focus (intro h; simp -implicitDefEqProofs at h; done)) | (refine AW.cond rfl (fun _ => ?_) ?_; rotate_left; focus (intro h; simp -implicitDefEqProofs at h; done)))
  try exact hp.v
 ·with_reducible first | exact Tri.tt | exact Tri.any _) : q := (h).1 ⟨hp⟩
theorem A01 {q p c1 : Prop} (k1 : c1) (hp : p) (h : c1 → (Hid p → q) ∧ Tri p := by
 intro c1
 constructor
 ·intro hp
  repeat (first | refine AW.seq ?_ | refine AW.block ?_ | (refine AW.reg mix ?_; (simp -implicitDefEqProofs; try simp (disch := omega) only [w64, wu64])) | (refine need.of (by first | omega | kernel_rfl) ?_) | (refine AW.fin ?_; try (simp -implicitDefEqProofs; try simp (disch := omega) only [w64, wu64])) | (refine AW.cond rfl ?_ (fun _ => ?_); focus (intro h; simp -implicitDefEqProofs at h; done)) | (refine AW.cond rfl (fun _ => ?_) ?_; rotate_left; focus (intro h; simp -implicitDefEqProofs at h; done)) | (refine CallS.pu c1 ?_; try (simp -implicitDefEqProofs; try simp (disch := omega) only [w64, wu64])) | refine Exists.intro _ (And.intro c1 ?_))
  try exact hp.v
 ·with_reducible first | exact Tri.tt | exact Tri.any _) : q := (h k1).1 ⟨hp⟩
theorem A02 {q p c1 c2 : Prop} (k1 : c1) (k2 : c2) (hp : p) (h : c1 → c2 → (Hid p → q) ∧ Tri p := by
 intro c1 c2
 constructor
 ·intro hp
  repeat (first | refine AW.seq ?_ | refine AW.block ?_ | (refine AW.reg mix ?_; (simp -implicitDefEqProofs; try simp (disch := omega) only [w64, wu64])) | (refine need.of (by first | omega | kernel_rfl) ?_) | (refine AW.fin ?_; try (simp -implicitDefEqProofs; try simp (disch := omega) only [w64, wu64])) | (refine AW.cond rfl ?_ (fun _ => ?_); focus (intro h; simp -implicitDefEqProofs at h; done)) | (refine AW.cond rfl (fun _ => ?_) ?_; rotate_left; focus (intro h; simp -implicitDefEqProofs at h; done)) | (refine CallS.pu c1 ?_; try (simp -implicitDefEqProofs; try simp (disch := omega) only [w64, wu64])) | refine Exists.intro _ (And.intro c1 ?_) | (refine CallS.pu c2 ?_; try (simp -implicitDefEqProofs; try simp (disch := omega) only [w64, wu64])) | refine Exists.intro _ (And.intro c2 ?_))
  try exact hp.v
 ·with_reducible first | exact Tri.tt | exact Tri.any _) : q := (h k1 k2).1 ⟨hp⟩
theorem A03 {q p c1 c2 c3 : Prop} (k1 : c1) (k2 : c2) (k3 : c3) (hp : p) (h : c1 → c2 → c3 → (Hid p → q) ∧ Tri p := by
 intro c1 c2 c3
 constructor
 ·intro hp
  repeat (first | refine AW.seq ?_ | refine AW.block ?_ | (refine AW.reg mix ?_; (simp -implicitDefEqProofs; try simp (disch := omega) only [w64, wu64])) | (refine need.of (by first | omega | kernel_rfl) ?_) | (refine AW.fin ?_; try (simp -implicitDefEqProofs; try simp (disch := omega) only [w64, wu64])) | (refine AW.cond rfl ?_ (fun _ => ?_); focus (intro h; simp -implicitDefEqProofs at h; done)) | (refine AW.cond rfl (fun _ => ?_) ?_; rotate_left; focus (intro h; simp -implicitDefEqProofs at h; done)) | (refine CallS.pu c1 ?_; try (simp -implicitDefEqProofs; try simp (disch := omega) only [w64, wu64])) | refine Exists.intro _ (And.intro c1 ?_) | (refine CallS.pu c2 ?_; try (simp -implicitDefEqProofs; try simp (disch := omega) only [w64, wu64])) | refine Exists.intro _ (And.intro c2 ?_) | (refine CallS.pu c3 ?_; try (simp -implicitDefEqProofs; try simp (disch := omega) only [w64, wu64])) | refine Exists.intro _ (And.intro c3 ?_))
  try exact hp.v
 ·with_reducible first | exact Tri.tt | exact Tri.any _) : q := (h k1 k2 k3).1 ⟨hp⟩
theorem A04 {q p c1 c2 c3 c4 : Prop} (k1 : c1) (k2 : c2) (k3 : c3) (k4 : c4) (hp : p) (h : c1 → c2 → c3 → c4 → (Hid p → q) ∧ Tri p := by
 intro c1 c2 c3 c4
 constructor
 ·intro hp
  repeat (first | refine AW.seq ?_ | refine AW.block ?_ | (refine AW.reg mix ?_; (simp -implicitDefEqProofs; try simp (disch := omega) only [w64, wu64])) | (refine need.of (by first | omega | kernel_rfl) ?_) | (refine AW.fin ?_; try (simp -implicitDefEqProofs; try simp (disch := omega) only [w64, wu64])) | (refine AW.cond rfl ?_ (fun _ => ?_); focus (intro h; simp -implicitDefEqProofs at h; done)) | (refine AW.cond rfl (fun _ => ?_) ?_; rotate_left; focus (intro h; simp -implicitDefEqProofs at h; done)) | (refine CallS.pu c1 ?_; try (simp -implicitDefEqProofs; try simp (disch := omega) only [w64, wu64])) | refine Exists.intro _ (And.intro c1 ?_) | (refine CallS.pu c2 ?_; try (simp -implicitDefEqProofs; try simp (disch := omega) only [w64, wu64])) | refine Exists.intro _ (And.intro c2 ?_) | (refine CallS.pu c3 ?_; try (simp -implicitDefEqProofs; try simp (disch := omega) only [w64, wu64])) | refine Exists.intro _ (And.intro c3 ?_) | (refine CallS.pu c4 ?_; try (simp -implicitDefEqProofs; try simp (disch := omega) only [w64, wu64])) | refine Exists.intro _ (And.intro c4 ?_))
  try exact hp.v
 ·with_reducible first | exact Tri.tt | exact Tri.any _) : q := (h k1 k2 k3 k4).1 ⟨hp⟩
theorem A06 {q p c1 c2 c3 c4 c5 c6 : Prop} (k1 : c1) (k2 : c2) (k3 : c3) (k4 : c4) (k5 : c5) (k6 : c6) (hp : p) (h : c1 → c2 → c3 → c4 → c5 → c6 → (Hid p → q) ∧ Tri p := by
 intro c1 c2 c3 c4 c5 c6
 constructor
 ·intro hp
  repeat (first | refine AW.seq ?_ | refine AW.block ?_ | (refine AW.reg mix ?_; (simp -implicitDefEqProofs; try simp (disch := omega) only [w64, wu64])) | (refine need.of (by first | omega | kernel_rfl) ?_) | (refine AW.fin ?_; try (simp -implicitDefEqProofs; try simp (disch := omega) only [w64, wu64])) | (refine AW.cond rfl ?_ (fun _ => ?_); focus (intro h; simp -implicitDefEqProofs at h; done)) | (refine AW.cond rfl (fun _ => ?_) ?_; rotate_left; focus (intro h; simp -implicitDefEqProofs at h; done)) | (refine CallS.pu c1 ?_; try (simp -implicitDefEqProofs; try simp (disch := omega) only [w64, wu64])) | refine Exists.intro _ (And.intro c1 ?_) | (refine CallS.pu c2 ?_; try (simp -implicitDefEqProofs; try simp (disch := omega) only [w64, wu64])) | refine Exists.intro _ (And.intro c2 ?_) | (refine CallS.pu c3 ?_; try (simp -implicitDefEqProofs; try simp (disch := omega) only [w64, wu64])) | refine Exists.intro _ (And.intro c3 ?_) | (refine CallS.pu c4 ?_; try (simp -implicitDefEqProofs; try simp (disch := omega) only [w64, wu64])) | refine Exists.intro _ (And.intro c4 ?_) | (refine CallS.pu c5 ?_; try (simp -implicitDefEqProofs; try simp (disch := omega) only [w64, wu64])) | refine Exists.intro _ (And.intro c5 ?_) | (refine CallS.pu c6 ?_; try (simp -implicitDefEqProofs; try simp (disch := omega) only [w64, wu64])) | refine Exists.intro _ (And.intro c6 ?_))
  try exact hp.v
 ·with_reducible first | exact Tri.tt | exact Tri.any _) : q := (h k1 k2 k3 k4 k5 k6).1 ⟨hp⟩
theorem G1 {q f1 : Prop} {p : f1 → Prop} (f : f1) (hp : (p f)) (h : ∀ f1 : f1, (Hid (p f1) → q) ∧ Tri (p f1) := by
 intro f1
 constructor
 ·intro hp
  repeat (first | refine AW.seq ?_ | refine AW.block ?_ | (refine AW.reg mix ?_; (simp -implicitDefEqProofs [f1]; try simp (disch := omega) only [w64, wu64])) | (refine need.of (by first | omega | kernel_rfl) ?_) | (refine AW.fin ?_; try (simp -implicitDefEqProofs [f1]; try simp (disch := omega) only [w64, wu64])))
  try exact hp.v
 ·with_reducible first | exact Tri.tt | exact Tri.any _) : q := (h f).1 ⟨hp⟩
theorem R1 {q f1 : Prop} {p : f1 → Prop} (f : f1) (hp : (p f)) (h : ∀ f1 : f1, (Hid (p f1) → q) ∧ Tri (p f1) := by
 intro f1
 constructor
 ·intro hp
  try (simp -implicitDefEqProofs [f1]; try simp (disch := omega) only [w64, wu64])
  repeat (first | refine AW.seq ?_ | refine AW.block ?_ | (refine AW.reg mix ?_; (simp -implicitDefEqProofs [f1]; try simp (disch := omega) only [w64, wu64])) | (refine need.of (by first | omega | kernel_rfl) ?_) | (refine AW.fin ?_; try (simp -implicitDefEqProofs [f1]; try simp (disch := omega) only [w64, wu64])))
  try exact hp.v
 ·with_reducible first | exact Tri.tt | exact Tri.any _) : q := (h f).1 ⟨hp⟩
theorem A10 {q f1 : Prop} {p : f1 → Prop} (f : f1) (hp : (p f)) (h : ∀ f1 : f1, (Hid (p f1) → q) ∧ Tri (p f1) := by
 intro f1
 constructor
 ·intro hp
  repeat (first | refine AW.seq ?_ | refine AW.block ?_ | (refine AW.reg mix ?_; (simp -implicitDefEqProofs [f1]; try simp (disch := omega) only [w64, wu64])) | (refine need.of (by first | omega | kernel_rfl) ?_) | (refine AW.fin ?_; try (simp -implicitDefEqProofs [f1]; try simp (disch := omega) only [w64, wu64])) | (refine AW.cond rfl ?_ (fun _ => ?_); focus (intro h; simp -implicitDefEqProofs [f1] at h; done)) | (refine AW.cond rfl (fun _ => ?_) ?_; rotate_left; focus (intro h; simp -implicitDefEqProofs [f1] at h; done)))
  try exact hp.v
 ·with_reducible first | exact Tri.tt | exact Tri.any _) : q := (h f).1 ⟨hp⟩
theorem A11 {q f1 c1 : Prop} {p : f1 → Prop} (f : f1) (k1 : c1) (hp : (p f)) (h : ∀ f1 : f1, c1 → (Hid (p f1) → q) ∧ Tri (p f1) := by
 intro f1 c1
 constructor
 ·intro hp
  repeat (first | refine AW.seq ?_ | refine AW.block ?_ | (refine AW.reg mix ?_; (simp -implicitDefEqProofs [f1]; try simp (disch := omega) only [w64, wu64])) | (refine need.of (by first | omega | kernel_rfl) ?_) | (refine AW.fin ?_; try (simp -implicitDefEqProofs [f1]; try simp (disch := omega) only [w64, wu64])) | (refine AW.cond rfl ?_ (fun _ => ?_); focus (intro h; simp -implicitDefEqProofs [f1] at h; done)) | (refine AW.cond rfl (fun _ => ?_) ?_; rotate_left; focus (intro h; simp -implicitDefEqProofs [f1] at h; done)) | (refine CallS.pu c1 ?_; try (simp -implicitDefEqProofs [f1]; try simp (disch := omega) only [w64, wu64])) | refine Exists.intro _ (And.intro c1 ?_))
  try exact hp.v
 ·with_reducible first | exact Tri.tt | exact Tri.any _) : q := (h f k1).1 ⟨hp⟩
theorem A12 {q f1 c1 c2 : Prop} {p : f1 → Prop} (f : f1) (k1 : c1) (k2 : c2) (hp : (p f)) (h : ∀ f1 : f1, c1 → c2 → (Hid (p f1) → q) ∧ Tri (p f1) := by
 intro f1 c1 c2
 constructor
 ·intro hp
  repeat (first | refine AW.seq ?_ | refine AW.block ?_ | (refine AW.reg mix ?_; (simp -implicitDefEqProofs [f1]; try simp (disch := omega) only [w64, wu64])) | (refine need.of (by first | omega | kernel_rfl) ?_) | (refine AW.fin ?_; try (simp -implicitDefEqProofs [f1]; try simp (disch := omega) only [w64, wu64])) | (refine AW.cond rfl ?_ (fun _ => ?_); focus (intro h; simp -implicitDefEqProofs [f1] at h; done)) | (refine AW.cond rfl (fun _ => ?_) ?_; rotate_left; focus (intro h; simp -implicitDefEqProofs [f1] at h; done)) | (refine CallS.pu c1 ?_; try (simp -implicitDefEqProofs [f1]; try simp (disch := omega) only [w64, wu64])) | refine Exists.intro _ (And.intro c1 ?_) | (refine CallS.pu c2 ?_; try (simp -implicitDefEqProofs [f1]; try simp (disch := omega) only [w64, wu64])) | refine Exists.intro _ (And.intro c2 ?_))
  try exact hp.v
 ·with_reducible first | exact Tri.tt | exact Tri.any _) : q := (h f k1 k2).1 ⟨hp⟩
theorem A13 {q f1 c1 c2 c3 : Prop} {p : f1 → Prop} (f : f1) (k1 : c1) (k2 : c2) (k3 : c3) (hp : (p f)) (h : ∀ f1 : f1, c1 → c2 → c3 → (Hid (p f1) → q) ∧ Tri (p f1) := by
 intro f1 c1 c2 c3
 constructor
 ·intro hp
  repeat (first | refine AW.seq ?_ | refine AW.block ?_ | (refine AW.reg mix ?_; (simp -implicitDefEqProofs [f1]; try simp (disch := omega) only [w64, wu64])) | (refine need.of (by first | omega | kernel_rfl) ?_) | (refine AW.fin ?_; try (simp -implicitDefEqProofs [f1]; try simp (disch := omega) only [w64, wu64])) | (refine AW.cond rfl ?_ (fun _ => ?_); focus (intro h; simp -implicitDefEqProofs [f1] at h; done)) | (refine AW.cond rfl (fun _ => ?_) ?_; rotate_left; focus (intro h; simp -implicitDefEqProofs [f1] at h; done)) | (refine CallS.pu c1 ?_; try (simp -implicitDefEqProofs [f1]; try simp (disch := omega) only [w64, wu64])) | refine Exists.intro _ (And.intro c1 ?_) | (refine CallS.pu c2 ?_; try (simp -implicitDefEqProofs [f1]; try simp (disch := omega) only [w64, wu64])) | refine Exists.intro _ (And.intro c2 ?_) | (refine CallS.pu c3 ?_; try (simp -implicitDefEqProofs [f1]; try simp (disch := omega) only [w64, wu64])) | refine Exists.intro _ (And.intro c3 ?_))
  try exact hp.v
 ·with_reducible first | exact Tri.tt | exact Tri.any _) : q := (h f k1 k2 k3).1 ⟨hp⟩
theorem A14 {q f1 c1 c2 c3 c4 : Prop} {p : f1 → Prop} (f : f1) (k1 : c1) (k2 : c2) (k3 : c3) (k4 : c4) (hp : (p f)) (h : ∀ f1 : f1, c1 → c2 → c3 → c4 → (Hid (p f1) → q) ∧ Tri (p f1) := by
 intro f1 c1 c2 c3 c4
 constructor
 ·intro hp
  repeat (first | refine AW.seq ?_ | refine AW.block ?_ | (refine AW.reg mix ?_; (simp -implicitDefEqProofs [f1]; try simp (disch := omega) only [w64, wu64])) | (refine need.of (by first | omega | kernel_rfl) ?_) | (refine AW.fin ?_; try (simp -implicitDefEqProofs [f1]; try simp (disch := omega) only [w64, wu64])) | (refine AW.cond rfl ?_ (fun _ => ?_); focus (intro h; simp -implicitDefEqProofs [f1] at h; done)) | (refine AW.cond rfl (fun _ => ?_) ?_; rotate_left; focus (intro h; simp -implicitDefEqProofs [f1] at h; done)) | (refine CallS.pu c1 ?_; try (simp -implicitDefEqProofs [f1]; try simp (disch := omega) only [w64, wu64])) | refine Exists.intro _ (And.intro c1 ?_) | (refine CallS.pu c2 ?_; try (simp -implicitDefEqProofs [f1]; try simp (disch := omega) only [w64, wu64])) | refine Exists.intro _ (And.intro c2 ?_) | (refine CallS.pu c3 ?_; try (simp -implicitDefEqProofs [f1]; try simp (disch := omega) only [w64, wu64])) | refine Exists.intro _ (And.intro c3 ?_) | (refine CallS.pu c4 ?_; try (simp -implicitDefEqProofs [f1]; try simp (disch := omega) only [w64, wu64])) | refine Exists.intro _ (And.intro c4 ?_))
  try exact hp.v
 ·with_reducible first | exact Tri.tt | exact Tri.any _) : q := (h f k1 k2 k3 k4).1 ⟨hp⟩
theorem A16 {q f1 c1 c2 c3 c4 c5 c6 : Prop} {p : f1 → Prop} (f : f1) (k1 : c1) (k2 : c2) (k3 : c3) (k4 : c4) (k5 : c5) (k6 : c6) (hp : (p f)) (h : ∀ f1 : f1, c1 → c2 → c3 → c4 → c5 → c6 → (Hid (p f1) → q) ∧ Tri (p f1) := by
 intro f1 c1 c2 c3 c4 c5 c6
 constructor
 ·intro hp
  repeat (first | refine AW.seq ?_ | refine AW.block ?_ | (refine AW.reg mix ?_; (simp -implicitDefEqProofs [f1]; try simp (disch := omega) only [w64, wu64])) | (refine need.of (by first | omega | kernel_rfl) ?_) | (refine AW.fin ?_; try (simp -implicitDefEqProofs [f1]; try simp (disch := omega) only [w64, wu64])) | (refine AW.cond rfl ?_ (fun _ => ?_); focus (intro h; simp -implicitDefEqProofs [f1] at h; done)) | (refine AW.cond rfl (fun _ => ?_) ?_; rotate_left; focus (intro h; simp -implicitDefEqProofs [f1] at h; done)) | (refine CallS.pu c1 ?_; try (simp -implicitDefEqProofs [f1]; try simp (disch := omega) only [w64, wu64])) | refine Exists.intro _ (And.intro c1 ?_) | (refine CallS.pu c2 ?_; try (simp -implicitDefEqProofs [f1]; try simp (disch := omega) only [w64, wu64])) | refine Exists.intro _ (And.intro c2 ?_) | (refine CallS.pu c3 ?_; try (simp -implicitDefEqProofs [f1]; try simp (disch := omega) only [w64, wu64])) | refine Exists.intro _ (And.intro c3 ?_) | (refine CallS.pu c4 ?_; try (simp -implicitDefEqProofs [f1]; try simp (disch := omega) only [w64, wu64])) | refine Exists.intro _ (And.intro c4 ?_) | (refine CallS.pu c5 ?_; try (simp -implicitDefEqProofs [f1]; try simp (disch := omega) only [w64, wu64])) | refine Exists.intro _ (And.intro c5 ?_) | (refine CallS.pu c6 ?_; try (simp -implicitDefEqProofs [f1]; try simp (disch := omega) only [w64, wu64])) | refine Exists.intro _ (And.intro c6 ?_))
  try exact hp.v
 ·with_reducible first | exact Tri.tt | exact Tri.any _) : q := (h f k1 k2 k3 k4 k5 k6).1 ⟨hp⟩
theorem A18 {q f1 c1 c2 c3 c4 c5 c6 c7 c8 : Prop} {p : f1 → Prop} (f : f1) (k1 : c1) (k2 : c2) (k3 : c3) (k4 : c4) (k5 : c5) (k6 : c6) (k7 : c7) (k8 : c8) (hp : (p f)) (h : ∀ f1 : f1, c1 → c2 → c3 → c4 → c5 → c6 → c7 → c8 → (Hid (p f1) → q) ∧ Tri (p f1) := by
 intro f1 c1 c2 c3 c4 c5 c6 c7 c8
 constructor
 ·intro hp
  repeat (first | refine AW.seq ?_ | refine AW.block ?_ | (refine AW.reg mix ?_; (simp -implicitDefEqProofs [f1]; try simp (disch := omega) only [w64, wu64])) | (refine need.of (by first | omega | kernel_rfl) ?_) | (refine AW.fin ?_; try (simp -implicitDefEqProofs [f1]; try simp (disch := omega) only [w64, wu64])) | (refine AW.cond rfl ?_ (fun _ => ?_); focus (intro h; simp -implicitDefEqProofs [f1] at h; done)) | (refine AW.cond rfl (fun _ => ?_) ?_; rotate_left; focus (intro h; simp -implicitDefEqProofs [f1] at h; done)) | (refine CallS.pu c1 ?_; try (simp -implicitDefEqProofs [f1]; try simp (disch := omega) only [w64, wu64])) | refine Exists.intro _ (And.intro c1 ?_) | (refine CallS.pu c2 ?_; try (simp -implicitDefEqProofs [f1]; try simp (disch := omega) only [w64, wu64])) | refine Exists.intro _ (And.intro c2 ?_) | (refine CallS.pu c3 ?_; try (simp -implicitDefEqProofs [f1]; try simp (disch := omega) only [w64, wu64])) | refine Exists.intro _ (And.intro c3 ?_) | (refine CallS.pu c4 ?_; try (simp -implicitDefEqProofs [f1]; try simp (disch := omega) only [w64, wu64])) | refine Exists.intro _ (And.intro c4 ?_) | (refine CallS.pu c5 ?_; try (simp -implicitDefEqProofs [f1]; try simp (disch := omega) only [w64, wu64])) | refine Exists.intro _ (And.intro c5 ?_) | (refine CallS.pu c6 ?_; try (simp -implicitDefEqProofs [f1]; try simp (disch := omega) only [w64, wu64])) | refine Exists.intro _ (And.intro c6 ?_) | (refine CallS.pu c7 ?_; try (simp -implicitDefEqProofs [f1]; try simp (disch := omega) only [w64, wu64])) | refine Exists.intro _ (And.intro c7 ?_) | (refine CallS.pu c8 ?_; try (simp -implicitDefEqProofs [f1]; try simp (disch := omega) only [w64, wu64])) | refine Exists.intro _ (And.intro c8 ?_))
  try exact hp.v
 ·with_reducible first | exact Tri.tt | exact Tri.any _) : q := (h f k1 k2 k3 k4 k5 k6 k7 k8).1 ⟨hp⟩
theorem A110 {q f1 c1 c2 c3 c4 c5 c6 c7 c8 c9 c10 : Prop} {p : f1 → Prop} (f : f1) (k1 : c1) (k2 : c2) (k3 : c3) (k4 : c4) (k5 : c5) (k6 : c6) (k7 : c7) (k8 : c8) (k9 : c9) (k10 : c10) (hp : (p f)) (h : ∀ f1 : f1, c1 → c2 → c3 → c4 → c5 → c6 → c7 → c8 → c9 → c10 → (Hid (p f1) → q) ∧ Tri (p f1) := by
 intro f1 c1 c2 c3 c4 c5 c6 c7 c8 c9 c10
 constructor
 ·intro hp
  repeat (first | refine AW.seq ?_ | refine AW.block ?_ | (refine AW.reg mix ?_; (simp -implicitDefEqProofs [f1]; try simp (disch := omega) only [w64, wu64])) | (refine need.of (by first | omega | kernel_rfl) ?_) | (refine AW.fin ?_; try (simp -implicitDefEqProofs [f1]; try simp (disch := omega) only [w64, wu64])) | (refine AW.cond rfl ?_ (fun _ => ?_); focus (intro h; simp -implicitDefEqProofs [f1] at h; done)) | (refine AW.cond rfl (fun _ => ?_) ?_; rotate_left; focus (intro h; simp -implicitDefEqProofs [f1] at h; done)) | (refine CallS.pu c1 ?_; try (simp -implicitDefEqProofs [f1]; try simp (disch := omega) only [w64, wu64])) | refine Exists.intro _ (And.intro c1 ?_) | (refine CallS.pu c2 ?_; try (simp -implicitDefEqProofs [f1]; try simp (disch := omega) only [w64, wu64])) | refine Exists.intro _ (And.intro c2 ?_) | (refine CallS.pu c3 ?_; try (simp -implicitDefEqProofs [f1]; try simp (disch := omega) only [w64, wu64])) | refine Exists.intro _ (And.intro c3 ?_) | (refine CallS.pu c4 ?_; try (simp -implicitDefEqProofs [f1]; try simp (disch := omega) only [w64, wu64])) | refine Exists.intro _ (And.intro c4 ?_) | (refine CallS.pu c5 ?_; try (simp -implicitDefEqProofs [f1]; try simp (disch := omega) only [w64, wu64])) | refine Exists.intro _ (And.intro c5 ?_) | (refine CallS.pu c6 ?_; try (simp -implicitDefEqProofs [f1]; try simp (disch := omega) only [w64, wu64])) | refine Exists.intro _ (And.intro c6 ?_) | (refine CallS.pu c7 ?_; try (simp -implicitDefEqProofs [f1]; try simp (disch := omega) only [w64, wu64])) | refine Exists.intro _ (And.intro c7 ?_) | (refine CallS.pu c8 ?_; try (simp -implicitDefEqProofs [f1]; try simp (disch := omega) only [w64, wu64])) | refine Exists.intro _ (And.intro c8 ?_) | (refine CallS.pu c9 ?_; try (simp -implicitDefEqProofs [f1]; try simp (disch := omega) only [w64, wu64])) | refine Exists.intro _ (And.intro c9 ?_) | (refine CallS.pu c10 ?_; try (simp -implicitDefEqProofs [f1]; try simp (disch := omega) only [w64, wu64])) | refine Exists.intro _ (And.intro c10 ?_))
  try exact hp.v
 ·with_reducible first | exact Tri.tt | exact Tri.any _) : q := (h f k1 k2 k3 k4 k5 k6 k7 k8 k9 k10).1 ⟨hp⟩
theorem G0B {q p : Prop} (hp : p) (h : (Hid p → q) ∧ Tri p := by
 constructor
 ·intro hp
  repeat (first | refine AW.seq ?_ | refine AW.block ?_ | (refine AW.reg mix ?_; (simp -implicitDefEqProofs [-Bool.exists_bool]; try simp (disch := omega) only [w64, wu64])) | (refine need.of (by first | omega | kernel_rfl) ?_) | (refine AW.fin ?_; try (simp -implicitDefEqProofs [-Bool.exists_bool]; try simp (disch := omega) only [w64, wu64])))
  try exact hp.v
 ·with_reducible first | exact Tri.tt | exact Tri.any _) : q := (h).1 ⟨hp⟩
theorem R0B {q p : Prop} (hp : p) (h : (Hid p → q) ∧ Tri p := by
 constructor
 ·intro hp
  try (simp -implicitDefEqProofs [-Bool.exists_bool]; try simp (disch := omega) only [w64, wu64])
  repeat (first | refine AW.seq ?_ | refine AW.block ?_ | (refine AW.reg mix ?_; (simp -implicitDefEqProofs [-Bool.exists_bool]; try simp (disch := omega) only [w64, wu64])) | (refine need.of (by first | omega | kernel_rfl) ?_) | (refine AW.fin ?_; try (simp -implicitDefEqProofs [-Bool.exists_bool]; try simp (disch := omega) only [w64, wu64])))
  try exact hp.v
 ·with_reducible first | exact Tri.tt | exact Tri.any _) : q := (h).1 ⟨hp⟩
theorem A06B {q p c1 c2 c3 c4 c5 c6 : Prop} (k1 : c1) (k2 : c2) (k3 : c3) (k4 : c4) (k5 : c5) (k6 : c6) (hp : p) (h : c1 → c2 → c3 → c4 → c5 → c6 → (Hid p → q) ∧ Tri p := by
 intro c1 c2 c3 c4 c5 c6
 constructor
 ·intro hp
  repeat (first | refine AW.seq ?_ | refine AW.block ?_ | (refine AW.reg mix ?_; (simp -implicitDefEqProofs [-Bool.exists_bool]; try simp (disch := omega) only [w64, wu64])) | (refine need.of (by first | omega | kernel_rfl) ?_) | (refine AW.fin ?_; try (simp -implicitDefEqProofs [-Bool.exists_bool]; try simp (disch := omega) only [w64, wu64])) | (refine AW.cond rfl ?_ (fun _ => ?_); focus (intro h; simp -implicitDefEqProofs [-Bool.exists_bool] at h; done)) | (refine AW.cond rfl (fun _ => ?_) ?_; rotate_left; focus (intro h; simp -implicitDefEqProofs [-Bool.exists_bool] at h; done)) | (refine CallS.pu c1 ?_; try (simp -implicitDefEqProofs [-Bool.exists_bool]; try simp (disch := omega) only [w64, wu64])) | refine Exists.intro _ (And.intro c1 ?_) | (refine CallS.pu c2 ?_; try (simp -implicitDefEqProofs [-Bool.exists_bool]; try simp (disch := omega) only [w64, wu64])) | refine Exists.intro _ (And.intro c2 ?_) | (refine CallS.pu c3 ?_; try (simp -implicitDefEqProofs [-Bool.exists_bool]; try simp (disch := omega) only [w64, wu64])) | refine Exists.intro _ (And.intro c3 ?_) | (refine CallS.pu c4 ?_; try (simp -implicitDefEqProofs [-Bool.exists_bool]; try simp (disch := omega) only [w64, wu64])) | refine Exists.intro _ (And.intro c4 ?_) | (refine CallS.pu c5 ?_; try (simp -implicitDefEqProofs [-Bool.exists_bool]; try simp (disch := omega) only [w64, wu64])) | refine Exists.intro _ (And.intro c5 ?_) | (refine CallS.pu c6 ?_; try (simp -implicitDefEqProofs [-Bool.exists_bool]; try simp (disch := omega) only [w64, wu64])) | refine Exists.intro _ (And.intro c6 ?_))
  try exact hp.v
 ·with_reducible first | exact Tri.tt | exact Tri.any _) : q := (h k1 k2 k3 k4 k5 k6).1 ⟨hp⟩
theorem G1B {q f1 : Prop} {p : f1 → Prop} (f : f1) (hp : (p f)) (h : ∀ f1 : f1, (Hid (p f1) → q) ∧ Tri (p f1) := by
 intro f1
 constructor
 ·intro hp
  repeat (first | refine AW.seq ?_ | refine AW.block ?_ | (refine AW.reg mix ?_; (simp -implicitDefEqProofs [-Bool.exists_bool, f1]; try simp (disch := omega) only [w64, wu64])) | (refine need.of (by first | omega | kernel_rfl) ?_) | (refine AW.fin ?_; try (simp -implicitDefEqProofs [-Bool.exists_bool, f1]; try simp (disch := omega) only [w64, wu64])))
  try exact hp.v
 ·with_reducible first | exact Tri.tt | exact Tri.any _) : q := (h f).1 ⟨hp⟩
end
end Go.Proofs.YtmpjlkclkhnpfaaGreatDoor.Am
