/- Parts of the proof: AmTac, CodeD, WordsM, Nat1, Nat2, Nat3, Nat4, Nat5, Nat6, Rat1, Text1, TxtM, YuM, DivM, Nat7, Txt1, TxtN, Txt2, Txt3, Mul1, Div1, Mul2, Rat2, Txt4. -/
import Derived.Test.YtabnkmpkcfjkmaaGreatDoorPb
set_option linter.unusedVariables false
set_option linter.unusedSimpArgs false
set_option maxRecDepth 100000
namespace Go.Proofs.YtabnkmpkcfjkmaaGreatDoor.Am
section
open Go.RowKit
inductive Tri:Prop→Prop
 | tt:Tri True
 | any (p:Prop):Tri p
structure Hid (p:Prop):Prop where
 v:p
theorem tt:True:=True.intro
theorem fs {a b:Prop} (x:a) (y:b):a∧b:=And.intro x y
theorem G0 {q p:Prop} (hp:p) (h:(Hid p→q)∧Tri p:=by
 constructor
 ·intro hp
  repeat (first | refine AW.seq ?_ | refine AW.block ?_ | (refine AW.reg mix ?_;(simp -implicitDefEqProofs;try simp (disch:=omega) only [w64,wu64])) | (refine need.of (by first | omega | kernel_rfl) ?_) | (refine AW.fin ?_;try (simp -implicitDefEqProofs;try simp (disch:=omega) only [w64,wu64])))
  try exact hp.v
 ·with_reducible first | exact Tri.tt | exact Tri.any _):q:=(h).1 ⟨hp⟩
theorem R0 {q p:Prop} (hp:p) (h:(Hid p→q)∧Tri p:=by
 constructor
 ·intro hp
  try (simp -implicitDefEqProofs;try simp (disch:=omega) only [w64,wu64])
  repeat (first | refine AW.seq ?_ | refine AW.block ?_ | (refine AW.reg mix ?_;(simp -implicitDefEqProofs;try simp (disch:=omega) only [w64,wu64])) | (refine need.of (by first | omega | kernel_rfl) ?_) | (refine AW.fin ?_;try (simp -implicitDefEqProofs;try simp (disch:=omega) only [w64,wu64])))
  try exact hp.v
 ·with_reducible first | exact Tri.tt | exact Tri.any _):q:=(h).1 ⟨hp⟩
theorem A00 {q p:Prop} (hp:p) (h:(Hid p→q)∧Tri p:=by
 constructor
 ·intro hp
  repeat (first | refine AW.seq ?_ | refine AW.block ?_ | (refine AW.reg mix ?_;(simp -implicitDefEqProofs;try simp (disch:=omega) only [w64,wu64])) | (refine need.of (by first | omega | kernel_rfl) ?_) | (refine AW.fin ?_;try (simp -implicitDefEqProofs;try simp (disch:=omega) only [w64,wu64])) | (refine AW.cond rfl ?_ (fun _=>?_);focus (intro h;simp -implicitDefEqProofs at h;done)) | (refine AW.cond rfl (fun _=>?_) ?_;rotate_left;focus (intro h;simp -implicitDefEqProofs at h;done)))
  try exact hp.v
 ·with_reducible first | exact Tri.tt | exact Tri.any _):q:=(h).1 ⟨hp⟩
theorem A01 {q p c1:Prop} (k1:c1) (hp:p) (h:c1→(Hid p→q)∧Tri p:=by
 intro c1
 constructor
 ·intro hp
  repeat (first | refine AW.seq ?_ | refine AW.block ?_ | (refine AW.reg mix ?_;(simp -implicitDefEqProofs;try simp (disch:=omega) only [w64,wu64])) | (refine need.of (by first | omega | kernel_rfl) ?_) | (refine AW.fin ?_;try (simp -implicitDefEqProofs;try simp (disch:=omega) only [w64,wu64])) | (refine AW.cond rfl ?_ (fun _=>?_);focus (intro h;simp -implicitDefEqProofs at h;done)) | (refine AW.cond rfl (fun _=>?_) ?_;rotate_left;focus (intro h;simp -implicitDefEqProofs at h;done)) | (refine CallS.pu c1 ?_;try (simp -implicitDefEqProofs;try simp (disch:=omega) only [w64,wu64])) | refine Exists.intro _ (And.intro c1 ?_))
  try exact hp.v
 ·with_reducible first | exact Tri.tt | exact Tri.any _):q:=(h k1).1 ⟨hp⟩
theorem A02 {q p c1 c2:Prop} (k1:c1) (k2:c2) (hp:p) (h:c1→c2→(Hid p→q)∧Tri p:=by
 intro c1 c2
 constructor
 ·intro hp
  repeat (first | refine AW.seq ?_ | refine AW.block ?_ | (refine AW.reg mix ?_;(simp -implicitDefEqProofs;try simp (disch:=omega) only [w64,wu64])) | (refine need.of (by first | omega | kernel_rfl) ?_) | (refine AW.fin ?_;try (simp -implicitDefEqProofs;try simp (disch:=omega) only [w64,wu64])) | (refine AW.cond rfl ?_ (fun _=>?_);focus (intro h;simp -implicitDefEqProofs at h;done)) | (refine AW.cond rfl (fun _=>?_) ?_;rotate_left;focus (intro h;simp -implicitDefEqProofs at h;done)) | (refine CallS.pu c1 ?_;try (simp -implicitDefEqProofs;try simp (disch:=omega) only [w64,wu64])) | refine Exists.intro _ (And.intro c1 ?_) | (refine CallS.pu c2 ?_;try (simp -implicitDefEqProofs;try simp (disch:=omega) only [w64,wu64])) | refine Exists.intro _ (And.intro c2 ?_))
  try exact hp.v
 ·with_reducible first | exact Tri.tt | exact Tri.any _):q:=(h k1 k2).1 ⟨hp⟩
theorem A03 {q p c1 c2 c3:Prop} (k1:c1) (k2:c2) (k3:c3) (hp:p) (h:c1→c2→c3→(Hid p→q)∧Tri p:=by
 intro c1 c2 c3
 constructor
 ·intro hp
  repeat (first | refine AW.seq ?_ | refine AW.block ?_ | (refine AW.reg mix ?_;(simp -implicitDefEqProofs;try simp (disch:=omega) only [w64,wu64])) | (refine need.of (by first | omega | kernel_rfl) ?_) | (refine AW.fin ?_;try (simp -implicitDefEqProofs;try simp (disch:=omega) only [w64,wu64])) | (refine AW.cond rfl ?_ (fun _=>?_);focus (intro h;simp -implicitDefEqProofs at h;done)) | (refine AW.cond rfl (fun _=>?_) ?_;rotate_left;focus (intro h;simp -implicitDefEqProofs at h;done)) | (refine CallS.pu c1 ?_;try (simp -implicitDefEqProofs;try simp (disch:=omega) only [w64,wu64])) | refine Exists.intro _ (And.intro c1 ?_) | (refine CallS.pu c2 ?_;try (simp -implicitDefEqProofs;try simp (disch:=omega) only [w64,wu64])) | refine Exists.intro _ (And.intro c2 ?_) | (refine CallS.pu c3 ?_;try (simp -implicitDefEqProofs;try simp (disch:=omega) only [w64,wu64])) | refine Exists.intro _ (And.intro c3 ?_))
  try exact hp.v
 ·with_reducible first | exact Tri.tt | exact Tri.any _):q:=(h k1 k2 k3).1 ⟨hp⟩
theorem A04 {q p c1 c2 c3 c4:Prop} (k1:c1) (k2:c2) (k3:c3) (k4:c4) (hp:p) (h:c1→c2→c3→c4→(Hid p→q)∧Tri p:=by
 intro c1 c2 c3 c4
 constructor
 ·intro hp
  repeat (first | refine AW.seq ?_ | refine AW.block ?_ | (refine AW.reg mix ?_;(simp -implicitDefEqProofs;try simp (disch:=omega) only [w64,wu64])) | (refine need.of (by first | omega | kernel_rfl) ?_) | (refine AW.fin ?_;try (simp -implicitDefEqProofs;try simp (disch:=omega) only [w64,wu64])) | (refine AW.cond rfl ?_ (fun _=>?_);focus (intro h;simp -implicitDefEqProofs at h;done)) | (refine AW.cond rfl (fun _=>?_) ?_;rotate_left;focus (intro h;simp -implicitDefEqProofs at h;done)) | (refine CallS.pu c1 ?_;try (simp -implicitDefEqProofs;try simp (disch:=omega) only [w64,wu64])) | refine Exists.intro _ (And.intro c1 ?_) | (refine CallS.pu c2 ?_;try (simp -implicitDefEqProofs;try simp (disch:=omega) only [w64,wu64])) | refine Exists.intro _ (And.intro c2 ?_) | (refine CallS.pu c3 ?_;try (simp -implicitDefEqProofs;try simp (disch:=omega) only [w64,wu64])) | refine Exists.intro _ (And.intro c3 ?_) | (refine CallS.pu c4 ?_;try (simp -implicitDefEqProofs;try simp (disch:=omega) only [w64,wu64])) | refine Exists.intro _ (And.intro c4 ?_))
  try exact hp.v
 ·with_reducible first | exact Tri.tt | exact Tri.any _):q:=(h k1 k2 k3 k4).1 ⟨hp⟩
theorem A06 {q p c1 c2 c3 c4 c5 c6:Prop} (k1:c1) (k2:c2) (k3:c3) (k4:c4) (k5:c5) (k6:c6) (hp:p) (h:c1→c2→c3→c4→c5→c6→(Hid p→q)∧Tri p:=by
 intro c1 c2 c3 c4 c5 c6
 constructor
 ·intro hp
  repeat (first | refine AW.seq ?_ | refine AW.block ?_ | (refine AW.reg mix ?_;(simp -implicitDefEqProofs;try simp (disch:=omega) only [w64,wu64])) | (refine need.of (by first | omega | kernel_rfl) ?_) | (refine AW.fin ?_;try (simp -implicitDefEqProofs;try simp (disch:=omega) only [w64,wu64])) | (refine AW.cond rfl ?_ (fun _=>?_);focus (intro h;simp -implicitDefEqProofs at h;done)) | (refine AW.cond rfl (fun _=>?_) ?_;rotate_left;focus (intro h;simp -implicitDefEqProofs at h;done)) | (refine CallS.pu c1 ?_;try (simp -implicitDefEqProofs;try simp (disch:=omega) only [w64,wu64])) | refine Exists.intro _ (And.intro c1 ?_) | (refine CallS.pu c2 ?_;try (simp -implicitDefEqProofs;try simp (disch:=omega) only [w64,wu64])) | refine Exists.intro _ (And.intro c2 ?_) | (refine CallS.pu c3 ?_;try (simp -implicitDefEqProofs;try simp (disch:=omega) only [w64,wu64])) | refine Exists.intro _ (And.intro c3 ?_) | (refine CallS.pu c4 ?_;try (simp -implicitDefEqProofs;try simp (disch:=omega) only [w64,wu64])) | refine Exists.intro _ (And.intro c4 ?_) | (refine CallS.pu c5 ?_;try (simp -implicitDefEqProofs;try simp (disch:=omega) only [w64,wu64])) | refine Exists.intro _ (And.intro c5 ?_) | (refine CallS.pu c6 ?_;try (simp -implicitDefEqProofs;try simp (disch:=omega) only [w64,wu64])) | refine Exists.intro _ (And.intro c6 ?_))
  try exact hp.v
 ·with_reducible first | exact Tri.tt | exact Tri.any _):q:=(h k1 k2 k3 k4 k5 k6).1 ⟨hp⟩
theorem G1 {q f1:Prop} {p:f1→Prop} (f:f1) (hp:(p f)) (h:∀f1:f1,(Hid (p f1)→q)∧Tri (p f1):=by
 intro f1
 constructor
 ·intro hp
  repeat (first | refine AW.seq ?_ | refine AW.block ?_ | (refine AW.reg mix ?_;(simp -implicitDefEqProofs [f1];try simp (disch:=omega) only [w64,wu64])) | (refine need.of (by first | omega | kernel_rfl) ?_) | (refine AW.fin ?_;try (simp -implicitDefEqProofs [f1];try simp (disch:=omega) only [w64,wu64])))
  try exact hp.v
 ·with_reducible first | exact Tri.tt | exact Tri.any _):q:=(h f).1 ⟨hp⟩
theorem R1 {q f1:Prop} {p:f1→Prop} (f:f1) (hp:(p f)) (h:∀f1:f1,(Hid (p f1)→q)∧Tri (p f1):=by
 intro f1
 constructor
 ·intro hp
  try (simp -implicitDefEqProofs [f1];try simp (disch:=omega) only [w64,wu64])
  repeat (first | refine AW.seq ?_ | refine AW.block ?_ | (refine AW.reg mix ?_;(simp -implicitDefEqProofs [f1];try simp (disch:=omega) only [w64,wu64])) | (refine need.of (by first | omega | kernel_rfl) ?_) | (refine AW.fin ?_;try (simp -implicitDefEqProofs [f1];try simp (disch:=omega) only [w64,wu64])))
  try exact hp.v
 ·with_reducible first | exact Tri.tt | exact Tri.any _):q:=(h f).1 ⟨hp⟩
theorem A10 {q f1:Prop} {p:f1→Prop} (f:f1) (hp:(p f)) (h:∀f1:f1,(Hid (p f1)→q)∧Tri (p f1):=by
 intro f1
 constructor
 ·intro hp
  repeat (first | refine AW.seq ?_ | refine AW.block ?_ | (refine AW.reg mix ?_;(simp -implicitDefEqProofs [f1];try simp (disch:=omega) only [w64,wu64])) | (refine need.of (by first | omega | kernel_rfl) ?_) | (refine AW.fin ?_;try (simp -implicitDefEqProofs [f1];try simp (disch:=omega) only [w64,wu64])) | (refine AW.cond rfl ?_ (fun _=>?_);focus (intro h;simp -implicitDefEqProofs [f1] at h;done)) | (refine AW.cond rfl (fun _=>?_) ?_;rotate_left;focus (intro h;simp -implicitDefEqProofs [f1] at h;done)))
  try exact hp.v
 ·with_reducible first | exact Tri.tt | exact Tri.any _):q:=(h f).1 ⟨hp⟩
theorem A11 {q f1 c1:Prop} {p:f1→Prop} (f:f1) (k1:c1) (hp:(p f)) (h:∀f1:f1,c1→(Hid (p f1)→q)∧Tri (p f1):=by
 intro f1 c1
 constructor
 ·intro hp
  repeat (first | refine AW.seq ?_ | refine AW.block ?_ | (refine AW.reg mix ?_;(simp -implicitDefEqProofs [f1];try simp (disch:=omega) only [w64,wu64])) | (refine need.of (by first | omega | kernel_rfl) ?_) | (refine AW.fin ?_;try (simp -implicitDefEqProofs [f1];try simp (disch:=omega) only [w64,wu64])) | (refine AW.cond rfl ?_ (fun _=>?_);focus (intro h;simp -implicitDefEqProofs [f1] at h;done)) | (refine AW.cond rfl (fun _=>?_) ?_;rotate_left;focus (intro h;simp -implicitDefEqProofs [f1] at h;done)) | (refine CallS.pu c1 ?_;try (simp -implicitDefEqProofs [f1];try simp (disch:=omega) only [w64,wu64])) | refine Exists.intro _ (And.intro c1 ?_))
  try exact hp.v
 ·with_reducible first | exact Tri.tt | exact Tri.any _):q:=(h f k1).1 ⟨hp⟩
theorem A12 {q f1 c1 c2:Prop} {p:f1→Prop} (f:f1) (k1:c1) (k2:c2) (hp:(p f)) (h:∀f1:f1,c1→c2→(Hid (p f1)→q)∧Tri (p f1):=by
 intro f1 c1 c2
 constructor
 ·intro hp
  repeat (first | refine AW.seq ?_ | refine AW.block ?_ | (refine AW.reg mix ?_;(simp -implicitDefEqProofs [f1];try simp (disch:=omega) only [w64,wu64])) | (refine need.of (by first | omega | kernel_rfl) ?_) | (refine AW.fin ?_;try (simp -implicitDefEqProofs [f1];try simp (disch:=omega) only [w64,wu64])) | (refine AW.cond rfl ?_ (fun _=>?_);focus (intro h;simp -implicitDefEqProofs [f1] at h;done)) | (refine AW.cond rfl (fun _=>?_) ?_;rotate_left;focus (intro h;simp -implicitDefEqProofs [f1] at h;done)) | (refine CallS.pu c1 ?_;try (simp -implicitDefEqProofs [f1];try simp (disch:=omega) only [w64,wu64])) | refine Exists.intro _ (And.intro c1 ?_) | (refine CallS.pu c2 ?_;try (simp -implicitDefEqProofs [f1];try simp (disch:=omega) only [w64,wu64])) | refine Exists.intro _ (And.intro c2 ?_))
  try exact hp.v
 ·with_reducible first | exact Tri.tt | exact Tri.any _):q:=(h f k1 k2).1 ⟨hp⟩
theorem A13 {q f1 c1 c2 c3:Prop} {p:f1→Prop} (f:f1) (k1:c1) (k2:c2) (k3:c3) (hp:(p f)) (h:∀f1:f1,c1→c2→c3→(Hid (p f1)→q)∧Tri (p f1):=by
 intro f1 c1 c2 c3
 constructor
 ·intro hp
  repeat (first | refine AW.seq ?_ | refine AW.block ?_ | (refine AW.reg mix ?_;(simp -implicitDefEqProofs [f1];try simp (disch:=omega) only [w64,wu64])) | (refine need.of (by first | omega | kernel_rfl) ?_) | (refine AW.fin ?_;try (simp -implicitDefEqProofs [f1];try simp (disch:=omega) only [w64,wu64])) | (refine AW.cond rfl ?_ (fun _=>?_);focus (intro h;simp -implicitDefEqProofs [f1] at h;done)) | (refine AW.cond rfl (fun _=>?_) ?_;rotate_left;focus (intro h;simp -implicitDefEqProofs [f1] at h;done)) | (refine CallS.pu c1 ?_;try (simp -implicitDefEqProofs [f1];try simp (disch:=omega) only [w64,wu64])) | refine Exists.intro _ (And.intro c1 ?_) | (refine CallS.pu c2 ?_;try (simp -implicitDefEqProofs [f1];try simp (disch:=omega) only [w64,wu64])) | refine Exists.intro _ (And.intro c2 ?_) | (refine CallS.pu c3 ?_;try (simp -implicitDefEqProofs [f1];try simp (disch:=omega) only [w64,wu64])) | refine Exists.intro _ (And.intro c3 ?_))
  try exact hp.v
 ·with_reducible first | exact Tri.tt | exact Tri.any _):q:=(h f k1 k2 k3).1 ⟨hp⟩
theorem A14 {q f1 c1 c2 c3 c4:Prop} {p:f1→Prop} (f:f1) (k1:c1) (k2:c2) (k3:c3) (k4:c4) (hp:(p f)) (h:∀f1:f1,c1→c2→c3→c4→(Hid (p f1)→q)∧Tri (p f1):=by
 intro f1 c1 c2 c3 c4
 constructor
 ·intro hp
  repeat (first | refine AW.seq ?_ | refine AW.block ?_ | (refine AW.reg mix ?_;(simp -implicitDefEqProofs [f1];try simp (disch:=omega) only [w64,wu64])) | (refine need.of (by first | omega | kernel_rfl) ?_) | (refine AW.fin ?_;try (simp -implicitDefEqProofs [f1];try simp (disch:=omega) only [w64,wu64])) | (refine AW.cond rfl ?_ (fun _=>?_);focus (intro h;simp -implicitDefEqProofs [f1] at h;done)) | (refine AW.cond rfl (fun _=>?_) ?_;rotate_left;focus (intro h;simp -implicitDefEqProofs [f1] at h;done)) | (refine CallS.pu c1 ?_;try (simp -implicitDefEqProofs [f1];try simp (disch:=omega) only [w64,wu64])) | refine Exists.intro _ (And.intro c1 ?_) | (refine CallS.pu c2 ?_;try (simp -implicitDefEqProofs [f1];try simp (disch:=omega) only [w64,wu64])) | refine Exists.intro _ (And.intro c2 ?_) | (refine CallS.pu c3 ?_;try (simp -implicitDefEqProofs [f1];try simp (disch:=omega) only [w64,wu64])) | refine Exists.intro _ (And.intro c3 ?_) | (refine CallS.pu c4 ?_;try (simp -implicitDefEqProofs [f1];try simp (disch:=omega) only [w64,wu64])) | refine Exists.intro _ (And.intro c4 ?_))
  try exact hp.v
 ·with_reducible first | exact Tri.tt | exact Tri.any _):q:=(h f k1 k2 k3 k4).1 ⟨hp⟩
theorem A16 {q f1 c1 c2 c3 c4 c5 c6:Prop} {p:f1→Prop} (f:f1) (k1:c1) (k2:c2) (k3:c3) (k4:c4) (k5:c5) (k6:c6) (hp:(p f)) (h:∀f1:f1,c1→c2→c3→c4→c5→c6→(Hid (p f1)→q)∧Tri (p f1):=by
 intro f1 c1 c2 c3 c4 c5 c6
 constructor
 ·intro hp
  repeat (first | refine AW.seq ?_ | refine AW.block ?_ | (refine AW.reg mix ?_;(simp -implicitDefEqProofs [f1];try simp (disch:=omega) only [w64,wu64])) | (refine need.of (by first | omega | kernel_rfl) ?_) | (refine AW.fin ?_;try (simp -implicitDefEqProofs [f1];try simp (disch:=omega) only [w64,wu64])) | (refine AW.cond rfl ?_ (fun _=>?_);focus (intro h;simp -implicitDefEqProofs [f1] at h;done)) | (refine AW.cond rfl (fun _=>?_) ?_;rotate_left;focus (intro h;simp -implicitDefEqProofs [f1] at h;done)) | (refine CallS.pu c1 ?_;try (simp -implicitDefEqProofs [f1];try simp (disch:=omega) only [w64,wu64])) | refine Exists.intro _ (And.intro c1 ?_) | (refine CallS.pu c2 ?_;try (simp -implicitDefEqProofs [f1];try simp (disch:=omega) only [w64,wu64])) | refine Exists.intro _ (And.intro c2 ?_) | (refine CallS.pu c3 ?_;try (simp -implicitDefEqProofs [f1];try simp (disch:=omega) only [w64,wu64])) | refine Exists.intro _ (And.intro c3 ?_) | (refine CallS.pu c4 ?_;try (simp -implicitDefEqProofs [f1];try simp (disch:=omega) only [w64,wu64])) | refine Exists.intro _ (And.intro c4 ?_) | (refine CallS.pu c5 ?_;try (simp -implicitDefEqProofs [f1];try simp (disch:=omega) only [w64,wu64])) | refine Exists.intro _ (And.intro c5 ?_) | (refine CallS.pu c6 ?_;try (simp -implicitDefEqProofs [f1];try simp (disch:=omega) only [w64,wu64])) | refine Exists.intro _ (And.intro c6 ?_))
  try exact hp.v
 ·with_reducible first | exact Tri.tt | exact Tri.any _):q:=(h f k1 k2 k3 k4 k5 k6).1 ⟨hp⟩
theorem A18 {q f1 c1 c2 c3 c4 c5 c6 c7 c8:Prop} {p:f1→Prop} (f:f1) (k1:c1) (k2:c2) (k3:c3) (k4:c4) (k5:c5) (k6:c6) (k7:c7) (k8:c8) (hp:(p f)) (h:∀f1:f1,c1→c2→c3→c4→c5→c6→c7→c8→(Hid (p f1)→q)∧Tri (p f1):=by
 intro f1 c1 c2 c3 c4 c5 c6 c7 c8
 constructor
 ·intro hp
  repeat (first | refine AW.seq ?_ | refine AW.block ?_ | (refine AW.reg mix ?_;(simp -implicitDefEqProofs [f1];try simp (disch:=omega) only [w64,wu64])) | (refine need.of (by first | omega | kernel_rfl) ?_) | (refine AW.fin ?_;try (simp -implicitDefEqProofs [f1];try simp (disch:=omega) only [w64,wu64])) | (refine AW.cond rfl ?_ (fun _=>?_);focus (intro h;simp -implicitDefEqProofs [f1] at h;done)) | (refine AW.cond rfl (fun _=>?_) ?_;rotate_left;focus (intro h;simp -implicitDefEqProofs [f1] at h;done)) | (refine CallS.pu c1 ?_;try (simp -implicitDefEqProofs [f1];try simp (disch:=omega) only [w64,wu64])) | refine Exists.intro _ (And.intro c1 ?_) | (refine CallS.pu c2 ?_;try (simp -implicitDefEqProofs [f1];try simp (disch:=omega) only [w64,wu64])) | refine Exists.intro _ (And.intro c2 ?_) | (refine CallS.pu c3 ?_;try (simp -implicitDefEqProofs [f1];try simp (disch:=omega) only [w64,wu64])) | refine Exists.intro _ (And.intro c3 ?_) | (refine CallS.pu c4 ?_;try (simp -implicitDefEqProofs [f1];try simp (disch:=omega) only [w64,wu64])) | refine Exists.intro _ (And.intro c4 ?_) | (refine CallS.pu c5 ?_;try (simp -implicitDefEqProofs [f1];try simp (disch:=omega) only [w64,wu64])) | refine Exists.intro _ (And.intro c5 ?_) | (refine CallS.pu c6 ?_;try (simp -implicitDefEqProofs [f1];try simp (disch:=omega) only [w64,wu64])) | refine Exists.intro _ (And.intro c6 ?_) | (refine CallS.pu c7 ?_;try (simp -implicitDefEqProofs [f1];try simp (disch:=omega) only [w64,wu64])) | refine Exists.intro _ (And.intro c7 ?_) | (refine CallS.pu c8 ?_;try (simp -implicitDefEqProofs [f1];try simp (disch:=omega) only [w64,wu64])) | refine Exists.intro _ (And.intro c8 ?_))
  try exact hp.v
 ·with_reducible first | exact Tri.tt | exact Tri.any _):q:=(h f k1 k2 k3 k4 k5 k6 k7 k8).1 ⟨hp⟩
theorem A110 {q f1 c1 c2 c3 c4 c5 c6 c7 c8 c9 c10:Prop} {p:f1→Prop} (f:f1) (k1:c1) (k2:c2) (k3:c3) (k4:c4) (k5:c5) (k6:c6) (k7:c7) (k8:c8) (k9:c9) (k10:c10) (hp:(p f)) (h:∀f1:f1,c1→c2→c3→c4→c5→c6→c7→c8→c9→c10→(Hid (p f1)→q)∧Tri (p f1):=by
 intro f1 c1 c2 c3 c4 c5 c6 c7 c8 c9 c10
 constructor
 ·intro hp
  repeat (first | refine AW.seq ?_ | refine AW.block ?_ | (refine AW.reg mix ?_;(simp -implicitDefEqProofs [f1];try simp (disch:=omega) only [w64,wu64])) | (refine need.of (by first | omega | kernel_rfl) ?_) | (refine AW.fin ?_;try (simp -implicitDefEqProofs [f1];try simp (disch:=omega) only [w64,wu64])) | (refine AW.cond rfl ?_ (fun _=>?_);focus (intro h;simp -implicitDefEqProofs [f1] at h;done)) | (refine AW.cond rfl (fun _=>?_) ?_;rotate_left;focus (intro h;simp -implicitDefEqProofs [f1] at h;done)) | (refine CallS.pu c1 ?_;try (simp -implicitDefEqProofs [f1];try simp (disch:=omega) only [w64,wu64])) | refine Exists.intro _ (And.intro c1 ?_) | (refine CallS.pu c2 ?_;try (simp -implicitDefEqProofs [f1];try simp (disch:=omega) only [w64,wu64])) | refine Exists.intro _ (And.intro c2 ?_) | (refine CallS.pu c3 ?_;try (simp -implicitDefEqProofs [f1];try simp (disch:=omega) only [w64,wu64])) | refine Exists.intro _ (And.intro c3 ?_) | (refine CallS.pu c4 ?_;try (simp -implicitDefEqProofs [f1];try simp (disch:=omega) only [w64,wu64])) | refine Exists.intro _ (And.intro c4 ?_) | (refine CallS.pu c5 ?_;try (simp -implicitDefEqProofs [f1];try simp (disch:=omega) only [w64,wu64])) | refine Exists.intro _ (And.intro c5 ?_) | (refine CallS.pu c6 ?_;try (simp -implicitDefEqProofs [f1];try simp (disch:=omega) only [w64,wu64])) | refine Exists.intro _ (And.intro c6 ?_) | (refine CallS.pu c7 ?_;try (simp -implicitDefEqProofs [f1];try simp (disch:=omega) only [w64,wu64])) | refine Exists.intro _ (And.intro c7 ?_) | (refine CallS.pu c8 ?_;try (simp -implicitDefEqProofs [f1];try simp (disch:=omega) only [w64,wu64])) | refine Exists.intro _ (And.intro c8 ?_) | (refine CallS.pu c9 ?_;try (simp -implicitDefEqProofs [f1];try simp (disch:=omega) only [w64,wu64])) | refine Exists.intro _ (And.intro c9 ?_) | (refine CallS.pu c10 ?_;try (simp -implicitDefEqProofs [f1];try simp (disch:=omega) only [w64,wu64])) | refine Exists.intro _ (And.intro c10 ?_))
  try exact hp.v
 ·with_reducible first | exact Tri.tt | exact Tri.any _):q:=(h f k1 k2 k3 k4 k5 k6 k7 k8 k9 k10).1 ⟨hp⟩
theorem G0B {q p:Prop} (hp:p) (h:(Hid p→q)∧Tri p:=by
 constructor
 ·intro hp
  repeat (first | refine AW.seq ?_ | refine AW.block ?_ | (refine AW.reg mix ?_;(simp -implicitDefEqProofs [-Bool.exists_bool];try simp (disch:=omega) only [w64,wu64])) | (refine need.of (by first | omega | kernel_rfl) ?_) | (refine AW.fin ?_;try (simp -implicitDefEqProofs [-Bool.exists_bool];try simp (disch:=omega) only [w64,wu64])))
  try exact hp.v
 ·with_reducible first | exact Tri.tt | exact Tri.any _):q:=(h).1 ⟨hp⟩
theorem R0B {q p:Prop} (hp:p) (h:(Hid p→q)∧Tri p:=by
 constructor
 ·intro hp
  try (simp -implicitDefEqProofs [-Bool.exists_bool];try simp (disch:=omega) only [w64,wu64])
  repeat (first | refine AW.seq ?_ | refine AW.block ?_ | (refine AW.reg mix ?_;(simp -implicitDefEqProofs [-Bool.exists_bool];try simp (disch:=omega) only [w64,wu64])) | (refine need.of (by first | omega | kernel_rfl) ?_) | (refine AW.fin ?_;try (simp -implicitDefEqProofs [-Bool.exists_bool];try simp (disch:=omega) only [w64,wu64])))
  try exact hp.v
 ·with_reducible first | exact Tri.tt | exact Tri.any _):q:=(h).1 ⟨hp⟩
theorem A06B {q p c1 c2 c3 c4 c5 c6:Prop} (k1:c1) (k2:c2) (k3:c3) (k4:c4) (k5:c5) (k6:c6) (hp:p) (h:c1→c2→c3→c4→c5→c6→(Hid p→q)∧Tri p:=by
 intro c1 c2 c3 c4 c5 c6
 constructor
 ·intro hp
  repeat (first | refine AW.seq ?_ | refine AW.block ?_ | (refine AW.reg mix ?_;(simp -implicitDefEqProofs [-Bool.exists_bool];try simp (disch:=omega) only [w64,wu64])) | (refine need.of (by first | omega | kernel_rfl) ?_) | (refine AW.fin ?_;try (simp -implicitDefEqProofs [-Bool.exists_bool];try simp (disch:=omega) only [w64,wu64])) | (refine AW.cond rfl ?_ (fun _=>?_);focus (intro h;simp -implicitDefEqProofs [-Bool.exists_bool] at h;done)) | (refine AW.cond rfl (fun _=>?_) ?_;rotate_left;focus (intro h;simp -implicitDefEqProofs [-Bool.exists_bool] at h;done)) | (refine CallS.pu c1 ?_;try (simp -implicitDefEqProofs [-Bool.exists_bool];try simp (disch:=omega) only [w64,wu64])) | refine Exists.intro _ (And.intro c1 ?_) | (refine CallS.pu c2 ?_;try (simp -implicitDefEqProofs [-Bool.exists_bool];try simp (disch:=omega) only [w64,wu64])) | refine Exists.intro _ (And.intro c2 ?_) | (refine CallS.pu c3 ?_;try (simp -implicitDefEqProofs [-Bool.exists_bool];try simp (disch:=omega) only [w64,wu64])) | refine Exists.intro _ (And.intro c3 ?_) | (refine CallS.pu c4 ?_;try (simp -implicitDefEqProofs [-Bool.exists_bool];try simp (disch:=omega) only [w64,wu64])) | refine Exists.intro _ (And.intro c4 ?_) | (refine CallS.pu c5 ?_;try (simp -implicitDefEqProofs [-Bool.exists_bool];try simp (disch:=omega) only [w64,wu64])) | refine Exists.intro _ (And.intro c5 ?_) | (refine CallS.pu c6 ?_;try (simp -implicitDefEqProofs [-Bool.exists_bool];try simp (disch:=omega) only [w64,wu64])) | refine Exists.intro _ (And.intro c6 ?_))
  try exact hp.v
 ·with_reducible first | exact Tri.tt | exact Tri.any _):q:=(h k1 k2 k3 k4 k5 k6).1 ⟨hp⟩
theorem G1B {q f1:Prop} {p:f1→Prop} (f:f1) (hp:(p f)) (h:∀f1:f1,(Hid (p f1)→q)∧Tri (p f1):=by
 intro f1
 constructor
 ·intro hp
  repeat (first | refine AW.seq ?_ | refine AW.block ?_ | (refine AW.reg mix ?_;(simp -implicitDefEqProofs [-Bool.exists_bool,f1];try simp (disch:=omega) only [w64,wu64])) | (refine need.of (by first | omega | kernel_rfl) ?_) | (refine AW.fin ?_;try (simp -implicitDefEqProofs [-Bool.exists_bool,f1];try simp (disch:=omega) only [w64,wu64])))
  try exact hp.v
 ·with_reducible first | exact Tri.tt | exact Tri.any _):q:=(h f).1 ⟨hp⟩
theorem R1B {q f1:Prop} {p:f1→Prop} (f:f1) (hp:(p f)) (h:∀f1:f1,(Hid (p f1)→q)∧Tri (p f1):=by
 intro f1
 constructor
 ·intro hp
  try (simp -implicitDefEqProofs [-Bool.exists_bool,f1];try simp (disch:=omega) only [w64,wu64])
  repeat (first | refine AW.seq ?_ | refine AW.block ?_ | (refine AW.reg mix ?_;(simp -implicitDefEqProofs [-Bool.exists_bool,f1];try simp (disch:=omega) only [w64,wu64])) | (refine need.of (by first | omega | kernel_rfl) ?_) | (refine AW.fin ?_;try (simp -implicitDefEqProofs [-Bool.exists_bool,f1];try simp (disch:=omega) only [w64,wu64])))
  try exact hp.v
 ·with_reducible first | exact Tri.tt | exact Tri.any _):q:=(h f).1 ⟨hp⟩
end
section
open Go.Proofs.YtabnkmpkcfjkmaaGreatDoor.Am
theorem mix:Tryz.prog.follows .mixedOrders=true:=by kernel_rfl
@[simp] def om_ (d s:Nat) (l:List Nat):O:=⟨some d,.mv (.t s),none,l⟩
@[simp] def oo_ (d:Nat) (a:A) (l:List Nat):O:=⟨some d,a,none,l⟩
@[simp] def og_ (d:Nat) (a:A) (s:Nat) (b:Bool) (l:List Nat):O:=⟨some d,a,some (s,b),l⟩
@[simp] def on_ (a:A) (l:List Nat):O:=⟨none,a,none,l⟩
noncomputable def codeOf (P:Program) (f:FuncId):C:=match fnOf P f with | some x=>x.1 | none=>.skip
theorem fno {P:Program} {f:FuncId} {rs:List RV} {nt:Nat} (h:((fnOf P f).map fun x=>x.2)=some (rs,nt,false)):fnOf P f=some (codeOf P f,rs,nt,false):=by
 unfold codeOf
 cases e:fnOf P f with
 | none=>rw [e] at h;cases h
 | some x=>rw [e] at h;simp only [Option.map_some,Option.some.injEq] at h;simp only [←h]
theorem cc {P:Program} {N:Nat} {c c':C} {Q:Exit→List V→List (Option Ob)→Prop} {T:List V} {H:List (Option Ob)} (h:c=c') (k:AW P N c' Q T H):AW P N c Q T H:=h▸k

abbrev o_6p:FuncId:=3
noncomputable def o_6q:C:=codeOf Tryz.prog o_6p
theorem o_6r:fnOf Tryz.prog o_6p=some (o_6q,[.t 6],108,false):=fno (by kernel_rfl)

abbrev o_6s:FuncId:=7
noncomputable def o_6t:C:=codeOf Tryz.prog o_6s
theorem o_6u:fnOf Tryz.prog o_6s=some (o_6t,[.t 0],36,false):=fno (by kernel_rfl)

abbrev o_6v:FuncId:=8
noncomputable def o_6w:C:=codeOf Tryz.prog o_6v
theorem o_6x:fnOf Tryz.prog o_6v=some (o_6w,[.cell 4 true 3],43,false):=fno (by kernel_rfl)

abbrev o_6y:FuncId:=9
noncomputable def o_6z:C:=codeOf Tryz.prog o_6y
theorem o_70:fnOf Tryz.prog o_6y=some (o_6z,[.cell 2 true 3],10,false):=fno (by kernel_rfl)

abbrev o_71:FuncId:=10
noncomputable def o_72:C:=codeOf Tryz.prog o_71
theorem o_73:fnOf Tryz.prog o_71=some (o_72,[.cell 4 true 16,.cell 5 false 1],12,false):=fno (by kernel_rfl)

abbrev o_74:FuncId:=11
noncomputable def o_75:C:=codeOf Tryz.prog o_74
theorem o_76:fnOf Tryz.prog o_74=some (o_75,[.t 5,.t 6],44,false):=fno (by kernel_rfl)

abbrev o_77:FuncId:=12
noncomputable def o_78:C:=codeOf Tryz.prog o_77
theorem o_79:fnOf Tryz.prog o_77=some (o_78,[.cell 8 true 2,.t 9],55,false):=fno (by kernel_rfl)

abbrev o_7a:FuncId:=13
noncomputable def o_7b:C:=codeOf Tryz.prog o_7a
theorem o_7c:fnOf Tryz.prog o_7a=some (o_7b,[.cell 8 true 2,.t 9],54,false):=fno (by kernel_rfl)

abbrev o_7d:FuncId:=14
noncomputable def o_7e:C:=codeOf Tryz.prog o_7d
theorem o_7f:fnOf Tryz.prog o_7d=some (o_7e,[.t 5,.t 6],22,false):=fno (by kernel_rfl)

abbrev o_7g:FuncId:=15
noncomputable def o_7h:C:=codeOf Tryz.prog o_7g
theorem o_7i:fnOf Tryz.prog o_7g=some (o_7h,[.t 4],79,false):=fno (by kernel_rfl)

abbrev o_7j:FuncId:=16
noncomputable def o_7k:C:=codeOf Tryz.prog o_7j
theorem o_7l:fnOf Tryz.prog o_7j=some (o_7k,[.cell 4 true 3,.t 5],13,false):=fno (by kernel_rfl)

abbrev o_7m:FuncId:=17
noncomputable def o_7n:C:=codeOf Tryz.prog o_7m
theorem o_7o:fnOf Tryz.prog o_7m=some (o_7n,[.t 4],10,false):=fno (by kernel_rfl)

abbrev o_7p:FuncId:=27
noncomputable def o_7q:C:=codeOf Tryz.prog o_7p
theorem o_7r:fnOf Tryz.prog o_7p=some (o_7q,[.t 4],16,false):=fno (by kernel_rfl)

abbrev o_7s:FuncId:=35
noncomputable def o_7t:C:=codeOf Tryz.prog o_7s
theorem o_7u:fnOf Tryz.prog o_7s=some (o_7t,[.t 6,.t 7],100,false):=fno (by kernel_rfl)

abbrev o_7v:FuncId:=36
noncomputable def o_7w:C:=codeOf Tryz.prog o_7v
theorem o_7x:fnOf Tryz.prog o_7v=some (o_7w,[.cell 2 true 3],6,false):=fno (by kernel_rfl)

abbrev o_7y:FuncId:=37
noncomputable def o_7z:C:=codeOf Tryz.prog o_7y
theorem o_80:fnOf Tryz.prog o_7y=some (o_7z,[.t 2],11,false):=fno (by kernel_rfl)

abbrev o_81:FuncId:=38
noncomputable def o_82:C:=codeOf Tryz.prog o_81
theorem o_83:fnOf Tryz.prog o_81=some (o_82,[.cell 6 true 2,.t 7],14,false):=fno (by kernel_rfl)

abbrev o_84:FuncId:=39
noncomputable def o_85:C:=codeOf Tryz.prog o_84
theorem o_86:fnOf Tryz.prog o_84=some (o_85,[.t 2],39,false):=fno (by kernel_rfl)

abbrev o_87:FuncId:=40
noncomputable def o_88:C:=codeOf Tryz.prog o_87
theorem o_89:fnOf Tryz.prog o_87=some (o_88,[.t 2],10,false):=fno (by kernel_rfl)

abbrev o_8a:FuncId:=41
noncomputable def o_8b:C:=codeOf Tryz.prog o_8a
theorem o_8c:fnOf Tryz.prog o_8a=some (o_8b,[],71,false):=fno (by kernel_rfl)

abbrev o_8d:FuncId:=42
noncomputable def o_8e:C:=codeOf Tryz.prog o_8d
theorem o_8f:fnOf Tryz.prog o_8d=some (o_8e,[.t 4],28,false):=fno (by kernel_rfl)

abbrev o_8g:FuncId:=43
noncomputable def o_8h:C:=codeOf Tryz.prog o_8g
theorem o_8i:fnOf Tryz.prog o_8g=some (o_8h,[.t 2],20,false):=fno (by kernel_rfl)

abbrev o_8j:FuncId:=44
noncomputable def o_8k:C:=codeOf Tryz.prog o_8j
theorem o_8l:fnOf Tryz.prog o_8j=some (o_8k,[.cell 6 true 2,.t 7],31,false):=fno (by kernel_rfl)

abbrev o_8m:FuncId:=45
noncomputable def o_8n:C:=codeOf Tryz.prog o_8m
theorem o_8o:fnOf Tryz.prog o_8m=some (o_8n,[.t 4,.t 5],12,false):=fno (by kernel_rfl)

abbrev o_8p:FuncId:=46
noncomputable def o_8q:C:=codeOf Tryz.prog o_8p
theorem o_8r:fnOf Tryz.prog o_8p=some (o_8q,[.t 5,.t 6],14,false):=fno (by kernel_rfl)

abbrev o_8s:FuncId:=47
noncomputable def o_8t:C:=codeOf Tryz.prog o_8s
theorem o_8u:fnOf Tryz.prog o_8s=some (o_8t,[.t 2],7,false):=fno (by kernel_rfl)

abbrev o_8v:FuncId:=48
noncomputable def o_8w:C:=codeOf Tryz.prog o_8v
theorem o_8x:fnOf Tryz.prog o_8v=some (o_8w,[.cell 2 true 3],7,false):=fno (by kernel_rfl)

abbrev o_8y:FuncId:=49
noncomputable def o_8z:C:=codeOf Tryz.prog o_8y
theorem o_90:fnOf Tryz.prog o_8y=some (o_8z,[.cell 4 true 3],22,false):=fno (by kernel_rfl)

abbrev o_91:FuncId:=50
noncomputable def o_92:C:=codeOf Tryz.prog o_91
theorem o_93:fnOf Tryz.prog o_91=some (o_92,[.cell 2 true 3],9,false):=fno (by kernel_rfl)

abbrev o_94:FuncId:=51
noncomputable def o_95:C:=codeOf Tryz.prog o_94
theorem o_96:fnOf Tryz.prog o_94=some (o_95,[.cell 4 true 3],31,false):=fno (by kernel_rfl)

abbrev o_97:FuncId:=52
noncomputable def o_98:C:=codeOf Tryz.prog o_97
theorem o_99:fnOf Tryz.prog o_97=some (o_98,[.cell 4 true 3],16,false):=fno (by kernel_rfl)

abbrev o_9a:FuncId:=53
noncomputable def o_9b:C:=codeOf Tryz.prog o_9a
theorem o_9c:fnOf Tryz.prog o_9a=some (o_9b,[.cell 4 true 3,.t 5],21,false):=fno (by kernel_rfl)

abbrev o_9d:FuncId:=54
noncomputable def o_9e:C:=codeOf Tryz.prog o_9d
theorem o_9f:fnOf Tryz.prog o_9d=some (o_9e,[.cell 2 true 2],16,false):=fno (by kernel_rfl)

abbrev o_9g:FuncId:=55
noncomputable def o_9h:C:=codeOf Tryz.prog o_9g
theorem o_9i:fnOf Tryz.prog o_9g=some (o_9h,[.t 2],16,false):=fno (by kernel_rfl)

abbrev o_9j:FuncId:=56
noncomputable def o_9k:C:=codeOf Tryz.prog o_9j
theorem o_9l:fnOf Tryz.prog o_9j=some (o_9k,[.t 2],47,false):=fno (by kernel_rfl)

abbrev o_9m:FuncId:=57
noncomputable def o_9n:C:=codeOf Tryz.prog o_9m
theorem o_9o:fnOf Tryz.prog o_9m=some (o_9n,[.t 4],16,false):=fno (by kernel_rfl)

abbrev o_9p:FuncId:=59
noncomputable def o_9q:C:=codeOf Tryz.prog o_9p
theorem o_9r:fnOf Tryz.prog o_9p=some (o_9q,[.t 2],26,false):=fno (by kernel_rfl)

abbrev o_9s:FuncId:=60
noncomputable def o_9t:C:=codeOf Tryz.prog o_9s
theorem o_9u:fnOf Tryz.prog o_9s=some (o_9t,[.t 4],14,false):=fno (by kernel_rfl)

abbrev o_9v:FuncId:=61
noncomputable def o_9w:C:=codeOf Tryz.prog o_9v
theorem o_9x:fnOf Tryz.prog o_9v=some (o_9w,[.t 2],16,false):=fno (by kernel_rfl)

abbrev o_9y:FuncId:=62
noncomputable def o_9z:C:=codeOf Tryz.prog o_9y
theorem o_a0:fnOf Tryz.prog o_9y=some (o_9z,[.t 2],7,false):=fno (by kernel_rfl)

abbrev o_a1:FuncId:=63
noncomputable def o_a2:C:=codeOf Tryz.prog o_a1
theorem o_a3:fnOf Tryz.prog o_a1=some (o_a2,[.t 4],40,false):=fno (by kernel_rfl)

abbrev o_a4:FuncId:=65
noncomputable def o_a5:C:=codeOf Tryz.prog o_a4
theorem o_a6:fnOf Tryz.prog o_a4=some (o_a5,[.t 6],79,false):=fno (by kernel_rfl)

abbrev o_a7:FuncId:=69
noncomputable def o_a8:C:=codeOf Tryz.prog o_a7
theorem o_a9:fnOf Tryz.prog o_a7=some (o_a8,[.t 4],45,false):=fno (by kernel_rfl)

abbrev o_aa:FuncId:=70
noncomputable def o_ab:C:=codeOf Tryz.prog o_aa
theorem o_ac:fnOf Tryz.prog o_aa=some (o_ab,[.cell 4 true 3],22,false):=fno (by kernel_rfl)

abbrev o_ad:FuncId:=71
noncomputable def o_ae:C:=codeOf Tryz.prog o_ad
theorem o_af:fnOf Tryz.prog o_ad=some (o_ae,[.t 4],28,false):=fno (by kernel_rfl)

abbrev o_ag:FuncId:=72
noncomputable def o_ah:C:=codeOf Tryz.prog o_ag
theorem o_ai:fnOf Tryz.prog o_ag=some (o_ah,[.cell 4 true 2],16,false):=fno (by kernel_rfl)

abbrev o_aj:FuncId:=73
noncomputable def o_ak:C:=codeOf Tryz.prog o_aj
theorem o_al:fnOf Tryz.prog o_aj=some (o_ak,[.cell 2 true 2],6,false):=fno (by kernel_rfl)

abbrev o_am:FuncId:=77
noncomputable def o_an:C:=codeOf Tryz.prog o_am
theorem o_ao:fnOf Tryz.prog o_am=some (o_an,[.cell 2 true 2],8,false):=fno (by kernel_rfl)

abbrev o_ap:FuncId:=79
noncomputable def o_aq:C:=codeOf Tryz.prog o_ap
theorem o_ar:fnOf Tryz.prog o_ap=some (o_aq,[.cell 2 true 3],10,false):=fno (by kernel_rfl)

abbrev o_as:FuncId:=81
noncomputable def o_at:C:=codeOf Tryz.prog o_as
theorem o_au:fnOf Tryz.prog o_as=some (o_at,[.cell 2 true 3],10,false):=fno (by kernel_rfl)

abbrev o_av:FuncId:=86
noncomputable def o_aw:C:=codeOf Tryz.prog o_av
theorem o_ax:fnOf Tryz.prog o_av=some (o_aw,[.t 2],36,false):=fno (by kernel_rfl)

abbrev o_ay:FuncId:=87
noncomputable def o_az:C:=codeOf Tryz.prog o_ay
theorem o_b0:fnOf Tryz.prog o_ay=some (o_az,[],13,false):=fno (by kernel_rfl)

abbrev o_b1:FuncId:=88
noncomputable def o_b2:C:=codeOf Tryz.prog o_b1
theorem o_b3:fnOf Tryz.prog o_b1=some (o_b2,[.cell 4 true 3],16,false):=fno (by kernel_rfl)

abbrev o_b4:FuncId:=89
noncomputable def o_b5:C:=codeOf Tryz.prog o_b4
theorem o_b6:fnOf Tryz.prog o_b4=some (o_b5,[.t 2],8,false):=fno (by kernel_rfl)

abbrev o_b7:FuncId:=90
noncomputable def o_b8:C:=codeOf Tryz.prog o_b7
theorem o_b9:fnOf Tryz.prog o_b7=some (o_b8,[.t 2],8,false):=fno (by kernel_rfl)

abbrev o_ba:FuncId:=91
noncomputable def o_bb:C:=codeOf Tryz.prog o_ba
theorem o_bc:fnOf Tryz.prog o_ba=some (o_bb,[.t 2],13,false):=fno (by kernel_rfl)

abbrev o_bd:FuncId:=92
noncomputable def o_be:C:=codeOf Tryz.prog o_bd
theorem o_bf:fnOf Tryz.prog o_bd=some (o_be,[.cell 2 true 2],18,false):=fno (by kernel_rfl)

abbrev o_bg:FuncId:=93
noncomputable def o_bh:C:=codeOf Tryz.prog o_bg
theorem o_bi:fnOf Tryz.prog o_bg=some (o_bh,[.t 2],14,false):=fno (by kernel_rfl)

abbrev o_bj:FuncId:=94
noncomputable def o_bk:C:=codeOf Tryz.prog o_bj
theorem o_bl:fnOf Tryz.prog o_bj=some (o_bk,[.cell 4 true 2],16,false):=fno (by kernel_rfl)

abbrev o_bm:FuncId:=95
noncomputable def o_bn:C:=codeOf Tryz.prog o_bm
theorem o_bo:fnOf Tryz.prog o_bm=some (o_bn,[.cell 4 true 2],9,false):=fno (by kernel_rfl)

abbrev o_bp:FuncId:=96
noncomputable def o_bq:C:=codeOf Tryz.prog o_bp
theorem o_br:fnOf Tryz.prog o_bp=some (o_bq,[.t 4],67,false):=fno (by kernel_rfl)

abbrev o_bs:FuncId:=97
noncomputable def o_bt:C:=codeOf Tryz.prog o_bs
theorem o_bu:fnOf Tryz.prog o_bs=some (o_bt,[.cell 2 true 2],8,false):=fno (by kernel_rfl)

abbrev o_bv:FuncId:=98
noncomputable def o_bw:C:=codeOf Tryz.prog o_bv
theorem o_bx:fnOf Tryz.prog o_bv=some (o_bw,[.cell 4 true 3],15,false):=fno (by kernel_rfl)

abbrev o_by:FuncId:=99
noncomputable def o_bz:C:=codeOf Tryz.prog o_by
theorem o_c0:fnOf Tryz.prog o_by=some (o_bz,[.cell 2 true 3],8,false):=fno (by kernel_rfl)

abbrev o_c1:FuncId:=100
noncomputable def o_c2:C:=codeOf Tryz.prog o_c1
theorem o_c3:fnOf Tryz.prog o_c1=some (o_c2,[.t 4],9,false):=fno (by kernel_rfl)

abbrev o_c4:FuncId:=101
noncomputable def o_c5:C:=codeOf Tryz.prog o_c4
theorem o_c6:fnOf Tryz.prog o_c4=some (o_c5,[.cell 4 true 4],52,false):=fno (by kernel_rfl)

abbrev o_c7:FuncId:=102
noncomputable def o_c8:C:=codeOf Tryz.prog o_c7
theorem o_c9:fnOf Tryz.prog o_c7=some (o_c8,[.cell 4 true 2],28,false):=fno (by kernel_rfl)

abbrev o_ca:FuncId:=103
noncomputable def o_cb:C:=codeOf Tryz.prog o_ca
theorem o_cc:fnOf Tryz.prog o_ca=some (o_cb,[.cell 2 true 1],5,false):=fno (by kernel_rfl)

abbrev o_cd:FuncId:=104
noncomputable def o_ce:C:=codeOf Tryz.prog o_cd
theorem o_cf:fnOf Tryz.prog o_cd=some (o_ce,[.t 2],7,false):=fno (by kernel_rfl)

abbrev o_cg:FuncId:=105
noncomputable def o_ch:C:=codeOf Tryz.prog o_cg
theorem o_ci:fnOf Tryz.prog o_cg=some (o_ch,[.cell 4 true 3],46,false):=fno (by kernel_rfl)

abbrev o_cj:FuncId:=106
noncomputable def o_ck:C:=codeOf Tryz.prog o_cj
theorem o_cl:fnOf Tryz.prog o_cj=some (o_ck,[.cell 4 true 2],13,false):=fno (by kernel_rfl)

abbrev o_cm:FuncId:=107
noncomputable def o_cn:C:=codeOf Tryz.prog o_cm
theorem o_co:fnOf Tryz.prog o_cm=some (o_cn,[.t 2],5,false):=fno (by kernel_rfl)

abbrev o_cp:FuncId:=108
noncomputable def o_cq:C:=codeOf Tryz.prog o_cp
theorem o_cr:fnOf Tryz.prog o_cp=some (o_cq,[.cell 2 true 1],6,false):=fno (by kernel_rfl)

abbrev o_cs:FuncId:=109
noncomputable def o_ct:C:=codeOf Tryz.prog o_cs
theorem o_cu:fnOf Tryz.prog o_cs=some (o_ct,[.t 2],6,false):=fno (by kernel_rfl)

abbrev o_cv:FuncId:=110
noncomputable def o_cw:C:=codeOf Tryz.prog o_cv
theorem o_cx:fnOf Tryz.prog o_cv=some (o_cw,[.t 2],12,false):=fno (by kernel_rfl)

abbrev o_cy:FuncId:=111
noncomputable def o_cz:C:=codeOf Tryz.prog o_cy
theorem o_d0:fnOf Tryz.prog o_cy=some (o_cz,[.cell 2 true 1],8,false):=fno (by kernel_rfl)

abbrev o_d1:FuncId:=112
noncomputable def o_d2:C:=codeOf Tryz.prog o_d1
theorem o_d3:fnOf Tryz.prog o_d1=some (o_d2,[.t 2],38,false):=fno (by kernel_rfl)

abbrev o_d4:FuncId:=113
noncomputable def o_d5:C:=codeOf Tryz.prog o_d4
theorem o_d6:fnOf Tryz.prog o_d4=some (o_d5,[.t 2],19,false):=fno (by kernel_rfl)

abbrev o_d7:FuncId:=114
noncomputable def o_d8:C:=codeOf Tryz.prog o_d7
theorem o_d9:fnOf Tryz.prog o_d7=some (o_d8,[.t 4],19,false):=fno (by kernel_rfl)

abbrev o_da:FuncId:=115
noncomputable def o_db:C:=codeOf Tryz.prog o_da
theorem o_dc:fnOf Tryz.prog o_da=some (o_db,[.t 4,.t 5],60,false):=fno (by kernel_rfl)

abbrev o_dd:FuncId:=116
noncomputable def o_de:C:=codeOf Tryz.prog o_dd
theorem o_df:fnOf Tryz.prog o_dd=some (o_de,[.t 2],46,false):=fno (by kernel_rfl)

abbrev o_dg:FuncId:=117
noncomputable def o_dh:C:=codeOf Tryz.prog o_dg
theorem o_di:fnOf Tryz.prog o_dg=some (o_dh,[.t 2],9,false):=fno (by kernel_rfl)

abbrev o_dj:FuncId:=118
noncomputable def o_dk:C:=codeOf Tryz.prog o_dj
theorem o_dl:fnOf Tryz.prog o_dj=some (o_dk,[.t 4],41,false):=fno (by kernel_rfl)

abbrev o_dm:FuncId:=119
noncomputable def o_dn:C:=codeOf Tryz.prog o_dm
theorem o_do:fnOf Tryz.prog o_dm=some (o_dn,[.t 6],20,false):=fno (by kernel_rfl)

abbrev o_dp:FuncId:=120
noncomputable def o_dq:C:=codeOf Tryz.prog o_dp
theorem o_dr:fnOf Tryz.prog o_dp=some (o_dq,[.cell 2 true 3],11,false):=fno (by kernel_rfl)

abbrev o_ds:FuncId:=122
noncomputable def o_dt:C:=codeOf Tryz.prog o_ds
theorem o_du:fnOf Tryz.prog o_ds=some (o_dt,[.t 4],29,false):=fno (by kernel_rfl)

abbrev o_dv:FuncId:=123
noncomputable def o_dw:C:=codeOf Tryz.prog o_dv
theorem o_dx:fnOf Tryz.prog o_dv=some (o_dw,[.cell 2 true 3],10,false):=fno (by kernel_rfl)

abbrev o_dy:FuncId:=124
noncomputable def o_dz:C:=codeOf Tryz.prog o_dy
theorem o_e0:fnOf Tryz.prog o_dy=some (o_dz,[.cell 4 true 3,.t 5],27,false):=fno (by kernel_rfl)

abbrev o_e1:FuncId:=125
noncomputable def o_e2:C:=codeOf Tryz.prog o_e1
theorem o_e3:fnOf Tryz.prog o_e1=some (o_e2,[.t 6],26,false):=fno (by kernel_rfl)

abbrev o_e4:FuncId:=126
abbrev o_e5:FuncId:=127
noncomputable def o_e6:C:=codeOf Tryz.prog o_e5
theorem o_e7:fnOf Tryz.prog o_e5=some (o_e6,[.t 4],30,false):=fno (by kernel_rfl)

abbrev o_e8:FuncId:=128
noncomputable def o_e9:C:=codeOf Tryz.prog o_e8
theorem o_ea:fnOf Tryz.prog o_e8=some (o_e9,[.t 2],12,false):=fno (by kernel_rfl)

abbrev o_eb:FuncId:=129
noncomputable def o_ec:C:=codeOf Tryz.prog o_eb
theorem o_ed:fnOf Tryz.prog o_eb=some (o_ec,[.t 4],9,false):=fno (by kernel_rfl)

abbrev o_ee:FuncId:=130
noncomputable def o_ef:C:=codeOf Tryz.prog o_ee
theorem o_eg:fnOf Tryz.prog o_ee=some (o_ef,[.t 3],8,false):=fno (by kernel_rfl)

abbrev o_eh:FuncId:=131
noncomputable def o_ei:C:=codeOf Tryz.prog o_eh
theorem o_ej:fnOf Tryz.prog o_eh=some (o_ei,[.t 6],32,false):=fno (by kernel_rfl)

abbrev o_ek:FuncId:=132
noncomputable def o_el:C:=codeOf Tryz.prog o_ek
theorem o_em:fnOf Tryz.prog o_ek=some (o_el,[.t 4],16,false):=fno (by kernel_rfl)

abbrev o_en:FuncId:=133
noncomputable def o_eo:C:=codeOf Tryz.prog o_en
theorem o_ep:fnOf Tryz.prog o_en=some (o_eo,[.t 3],7,false):=fno (by kernel_rfl)

abbrev o_eq:FuncId:=134
noncomputable def o_er:C:=codeOf Tryz.prog o_eq
theorem o_es:fnOf Tryz.prog o_eq=some (o_er,[.t 4],46,false):=fno (by kernel_rfl)

abbrev o_et:FuncId:=135
noncomputable def o_eu:C:=codeOf Tryz.prog o_et
theorem o_ev:fnOf Tryz.prog o_et=some (o_eu,[.cell 4 true 2],48,false):=fno (by kernel_rfl)

abbrev o_ew:FuncId:=136
noncomputable def o_ex:C:=codeOf Tryz.prog o_ew
theorem o_ey:fnOf Tryz.prog o_ew=some (o_ex,[.cell 4 true 1],85,false):=fno (by kernel_rfl)

abbrev o_ez:FuncId:=137
noncomputable def o_f0:C:=codeOf Tryz.prog o_ez
theorem o_f1:fnOf Tryz.prog o_ez=some (o_f0,[.t 4],47,false):=fno (by kernel_rfl)

abbrev o_f2:FuncId:=142
noncomputable def o_f3:C:=codeOf Tryz.prog o_f2
theorem o_f4:fnOf Tryz.prog o_f2=some (o_f3,[.t 4],27,false):=fno (by kernel_rfl)

abbrev o_f5:FuncId:=144
noncomputable def o_f6:C:=codeOf Tryz.prog o_f5
theorem o_f7:fnOf Tryz.prog o_f5=some (o_f6,[.t 2],25,false):=fno (by kernel_rfl)

abbrev o_f8:FuncId:=145
noncomputable def o_f9:C:=codeOf Tryz.prog o_f8
theorem o_fa:fnOf Tryz.prog o_f8=some (o_f9,[.t 2],42,false):=fno (by kernel_rfl)

abbrev o_fb:FuncId:=146
noncomputable def o_fc:C:=codeOf Tryz.prog o_fb
theorem o_fd:fnOf Tryz.prog o_fb=some (o_fc,[.t 4],53,false):=fno (by kernel_rfl)

abbrev o_fe:FuncId:=147
noncomputable def o_ff:C:=codeOf Tryz.prog o_fe
theorem o_fg:fnOf Tryz.prog o_fe=some (o_ff,[.t 2],21,false):=fno (by kernel_rfl)

abbrev o_fh:FuncId:=148
noncomputable def o_fi:C:=codeOf Tryz.prog o_fh
theorem o_fj:fnOf Tryz.prog o_fh=some (o_fi,[.cell 4 true 3],9,false):=fno (by kernel_rfl)

abbrev o_fk:FuncId:=149
noncomputable def o_fl:C:=codeOf Tryz.prog o_fk
theorem o_fm:fnOf Tryz.prog o_fk=some (o_fl,[.t 4],17,false):=fno (by kernel_rfl)

abbrev o_fn:FuncId:=150
noncomputable def o_fo:C:=codeOf Tryz.prog o_fn
theorem o_fp:fnOf Tryz.prog o_fn=some (o_fo,[.cell 4 true 3],8,false):=fno (by kernel_rfl)

abbrev o_fq:FuncId:=151
noncomputable def o_fr:C:=codeOf Tryz.prog o_fq
theorem o_fs:fnOf Tryz.prog o_fq=some (o_fr,[.t 4],24,false):=fno (by kernel_rfl)

abbrev o_ft:FuncId:=152
noncomputable def o_fu:C:=codeOf Tryz.prog o_ft
theorem o_fv:fnOf Tryz.prog o_ft=some (o_fu,[.t 2],16,false):=fno (by kernel_rfl)

abbrev o_fw:FuncId:=153
noncomputable def o_fx:C:=codeOf Tryz.prog o_fw
theorem o_fy:fnOf Tryz.prog o_fw=some (o_fx,[.cell 4 true 1],23,false):=fno (by kernel_rfl)

abbrev o_fz:FuncId:=154
noncomputable def o_g0:C:=codeOf Tryz.prog o_fz
theorem o_g1:fnOf Tryz.prog o_fz=some (o_g0,[.cell 4 true 1,.cell 5 true 1,.t 6],49,false):=fno (by kernel_rfl)

abbrev o_g2:FuncId:=155
noncomputable def o_g3:C:=codeOf Tryz.prog o_g2
theorem o_g4:fnOf Tryz.prog o_g2=some (o_g3,[.cell 4 true 1,.t 5],51,false):=fno (by kernel_rfl)

abbrev o_g5:FuncId:=156
noncomputable def o_g6:C:=codeOf Tryz.prog o_g5
theorem o_g7:fnOf Tryz.prog o_g5=some (o_g6,[.cell 2 true 1],22,false):=fno (by kernel_rfl)

abbrev o_g8:FuncId:=157
noncomputable def o_g9:C:=codeOf Tryz.prog o_g8
theorem o_ga:fnOf Tryz.prog o_g8=some (o_g9,[.t 2],8,false):=fno (by kernel_rfl)

abbrev o_gb:FuncId:=158
noncomputable def o_gc:C:=codeOf Tryz.prog o_gb
theorem o_gd:fnOf Tryz.prog o_gb=some (o_gc,[.cell 4 true 1],61,false):=fno (by kernel_rfl)

abbrev o_ge:FuncId:=159
noncomputable def o_gf:C:=codeOf Tryz.prog o_ge
theorem o_gg:fnOf Tryz.prog o_ge=some (o_gf,[.t 4,.t 5],34,false):=fno (by kernel_rfl)

abbrev o_gh:FuncId:=160
noncomputable def o_gi:C:=codeOf Tryz.prog o_gh
theorem o_gj:fnOf Tryz.prog o_gh=some (o_gi,[.t 4],8,false):=fno (by kernel_rfl)

abbrev o_gk:FuncId:=161
noncomputable def o_gl:C:=codeOf Tryz.prog o_gk
theorem o_gm:fnOf Tryz.prog o_gk=some (o_gl,[.t 4],125,false):=fno (by kernel_rfl)

abbrev o_gn:FuncId:=162
noncomputable def o_go:C:=codeOf Tryz.prog o_gn
theorem o_gp:fnOf Tryz.prog o_gn=some (o_go,[.t 4],41,false):=fno (by kernel_rfl)

abbrev o_gq:FuncId:=163
noncomputable def o_gr:C:=codeOf Tryz.prog o_gq
theorem o_gs:fnOf Tryz.prog o_gq=some (o_gr,[.cell 4 true 3],13,false):=fno (by kernel_rfl)

abbrev o_gt:FuncId:=164
noncomputable def o_gu:C:=codeOf Tryz.prog o_gt
theorem o_gv:fnOf Tryz.prog o_gt=some (o_gu,[.cell 2 true 3,.t 3],20,false):=fno (by kernel_rfl)

abbrev o_gw:FuncId:=165
noncomputable def o_gx:C:=codeOf Tryz.prog o_gw
theorem o_gy:fnOf Tryz.prog o_gw=some (o_gx,[.t 2],50,false):=fno (by kernel_rfl)

abbrev o_gz:FuncId:=166
noncomputable def o_h0:C:=codeOf Tryz.prog o_gz
theorem o_h1:fnOf Tryz.prog o_gz=some (o_h0,[.t 3],7,false):=fno (by kernel_rfl)

abbrev o_h2:FuncId:=168
noncomputable def o_h3:C:=codeOf Tryz.prog o_h2
theorem o_h4:fnOf Tryz.prog o_h2=some (o_h3,[.t 2],18,false):=fno (by kernel_rfl)

abbrev o_h5:FuncId:=169
noncomputable def o_h6:C:=codeOf Tryz.prog o_h5
theorem o_h7:fnOf Tryz.prog o_h5=some (o_h6,[.t 4],20,false):=fno (by kernel_rfl)

abbrev o_h8:FuncId:=170
noncomputable def o_h9:C:=codeOf Tryz.prog o_h8
theorem o_ha:fnOf Tryz.prog o_h8=some (o_h9,[.t 2],4,false):=fno (by kernel_rfl)

abbrev o_hb:FuncId:=171
noncomputable def o_hc:C:=codeOf Tryz.prog o_hb
theorem o_hd:fnOf Tryz.prog o_hb=some (o_hc,[.t 2],21,false):=fno (by kernel_rfl)

abbrev o_he:FuncId:=172
noncomputable def o_hf:C:=codeOf Tryz.prog o_he
theorem o_hg:fnOf Tryz.prog o_he=some (o_hf,[.t 4],19,false):=fno (by kernel_rfl)

abbrev o_hh:FuncId:=173
noncomputable def o_hi:C:=codeOf Tryz.prog o_hh
theorem o_hj:fnOf Tryz.prog o_hh=some (o_hi,[.t 4],27,false):=fno (by kernel_rfl)

abbrev o_hk:FuncId:=174
noncomputable def o_hl:C:=codeOf Tryz.prog o_hk
theorem o_hm:fnOf Tryz.prog o_hk=some (o_hl,[.cell 4 true 3,.t 5],19,false):=fno (by kernel_rfl)

abbrev o_hn:FuncId:=175
noncomputable def o_ho:C:=codeOf Tryz.prog o_hn
theorem o_hp:fnOf Tryz.prog o_hn=some (o_ho,[.t 3],13,false):=fno (by kernel_rfl)

abbrev o_hq:FuncId:=176
noncomputable def o_hr:C:=codeOf Tryz.prog o_hq
theorem o_hs:fnOf Tryz.prog o_hq=some (o_hr,[.t 4,.t 5],51,false):=fno (by kernel_rfl)

abbrev o_ht:FuncId:=178
noncomputable def o_hu:C:=codeOf Tryz.prog o_ht
theorem o_hv:fnOf Tryz.prog o_ht=some (o_hu,[.t 4,.t 5],21,false):=fno (by kernel_rfl)

abbrev o_hw:FuncId:=180
noncomputable def o_hx:C:=codeOf Tryz.prog o_hw
theorem o_hy:fnOf Tryz.prog o_hw=some (o_hx,[.cell 4 true 1,.cell 5 true 1,.t 6],65,false):=fno (by kernel_rfl)

abbrev o_hz:FuncId:=182
noncomputable def o_i0:C:=codeOf Tryz.prog o_hz
theorem o_i1:fnOf Tryz.prog o_hz=some (o_i0,[.t 6,.t 7],135,false):=fno (by kernel_rfl)

abbrev o_i2:FuncId:=183
noncomputable def o_i3:C:=codeOf Tryz.prog o_i2
theorem o_i4:fnOf Tryz.prog o_i2=some (o_i3,[.t 4],32,false):=fno (by kernel_rfl)

abbrev o_i5:FuncId:=184
noncomputable def o_i6:C:=codeOf Tryz.prog o_i5
theorem o_i7:fnOf Tryz.prog o_i5=some (o_i6,[.t 4,.t 5],30,false):=fno (by kernel_rfl)

abbrev o_i8:FuncId:=185
noncomputable def o_i9:C:=codeOf Tryz.prog o_i8
theorem o_ia:fnOf Tryz.prog o_i8=some (o_i9,[.t 4],8,false):=fno (by kernel_rfl)

abbrev o_ib:FuncId:=190
noncomputable def o_ic:C:=codeOf Tryz.prog o_ib
theorem o_id:fnOf Tryz.prog o_ib=some (o_ic,[.cell 2 true 2],9,false):=fno (by kernel_rfl)

abbrev o_ie:FuncId:=191
noncomputable def o_if:C:=codeOf Tryz.prog o_ie
theorem o_ig:fnOf Tryz.prog o_ie=some (o_if,[.cell 4 true 1,.t 5],23,false):=fno (by kernel_rfl)

abbrev o_ih:FuncId:=192
noncomputable def o_ii:C:=codeOf Tryz.prog o_ih
theorem o_ij:fnOf Tryz.prog o_ih=some (o_ii,[.cell 2 true 3],6,false):=fno (by kernel_rfl)

abbrev o_ik:FuncId:=201
noncomputable def o_il:C:=codeOf Tryz.prog o_ik
theorem o_im:fnOf Tryz.prog o_ik=some (o_il,[.t 2],6,false):=fno (by kernel_rfl)

abbrev o_in:FuncId:=202
noncomputable def o_io:C:=codeOf Tryz.prog o_in
theorem o_ip:fnOf Tryz.prog o_in=some (o_io,[.t 2,.t 3],47,false):=fno (by kernel_rfl)

abbrev o_iq:FuncId:=203
noncomputable def o_ir:C:=codeOf Tryz.prog o_iq
theorem o_is:fnOf Tryz.prog o_iq=some (o_ir,[.t 2],6,false):=fno (by kernel_rfl)

abbrev o_it:FuncId:=204
noncomputable def o_iu:C:=codeOf Tryz.prog o_it
theorem o_iv:fnOf Tryz.prog o_it=some (o_iu,[.t 4],38,false):=fno (by kernel_rfl)

abbrev o_iw:FuncId:=205
noncomputable def o_ix:C:=codeOf Tryz.prog o_iw
theorem o_iy:fnOf Tryz.prog o_iw=some (o_ix,[.t 4],87,false):=fno (by kernel_rfl)

abbrev o_iz:FuncId:=206
noncomputable def o_j0:C:=codeOf Tryz.prog o_iz
theorem o_j1:fnOf Tryz.prog o_iz=some (o_j0,[.cell 4 true 1],59,false):=fno (by kernel_rfl)

abbrev o_j2:FuncId:=207
noncomputable def o_j3:C:=codeOf Tryz.prog o_j2
theorem o_j4:fnOf Tryz.prog o_j2=some (o_j3,[.t 2],15,false):=fno (by kernel_rfl)

abbrev o_j5:FuncId:=208
noncomputable def o_j6:C:=codeOf Tryz.prog o_j5
theorem o_j7:fnOf Tryz.prog o_j5=some (o_j6,[.t 2],15,false):=fno (by kernel_rfl)

abbrev o_j8:FuncId:=209
noncomputable def o_j9:C:=codeOf Tryz.prog o_j8
theorem o_ja:fnOf Tryz.prog o_j8=some (o_j9,[],167,false):=fno (by kernel_rfl)

abbrev o_jb:FuncId:=212
noncomputable def o_jc:C:=codeOf Tryz.prog o_jb
theorem o_jd:fnOf Tryz.prog o_jb=some (o_jc,[.t 4],18,false):=fno (by kernel_rfl)

abbrev o_je:FuncId:=220
noncomputable def o_jf:C:=codeOf Tryz.prog o_je
theorem o_jg:fnOf Tryz.prog o_je=some (o_jf,[.t 6],68,false):=fno (by kernel_rfl)

abbrev o_jh:FuncId:=221
noncomputable def o_ji:C:=codeOf Tryz.prog o_jh
theorem o_jj:fnOf Tryz.prog o_jh=some (o_ji,[.t 2],6,false):=fno (by kernel_rfl)

abbrev o_jk:FuncId:=222
noncomputable def o_jl:C:=codeOf Tryz.prog o_jk
theorem o_jm:fnOf Tryz.prog o_jk=some (o_jl,[.t 2],4,false):=fno (by kernel_rfl)

abbrev o_jn:FuncId:=246
noncomputable def o_jo:C:=codeOf Tryz.prog o_jn
theorem o_jp:fnOf Tryz.prog o_jn=some (o_jo,[.t 2],20,false):=fno (by kernel_rfl)

abbrev o_jq:FuncId:=248
noncomputable def o_jr:C:=codeOf Tryz.prog o_jq
theorem o_js:fnOf Tryz.prog o_jq=some (o_jr,[.t 8,.t 9],17,false):=fno (by kernel_rfl)

abbrev o_jt:FuncId:=249
noncomputable def o_ju:C:=codeOf Tryz.prog o_jt
theorem o_jv:fnOf Tryz.prog o_jt=some (o_ju,[.cell 4 true 3,.t 5],11,false):=fno (by kernel_rfl)

abbrev o_jw:FuncId:=250
noncomputable def o_jx:C:=codeOf Tryz.prog o_jw
theorem o_jy:fnOf Tryz.prog o_jw=some (o_jx,[.t 2],5,false):=fno (by kernel_rfl)

abbrev o_jz:FuncId:=252
noncomputable def o_k0:C:=codeOf Tryz.prog o_jz
theorem o_k1:fnOf Tryz.prog o_jz=some (o_k0,[.t 6,.t 7],14,false):=fno (by kernel_rfl)

abbrev o_k2:FuncId:=254
noncomputable def o_k3:C:=codeOf Tryz.prog o_k2
theorem o_k4:fnOf Tryz.prog o_k2=some (o_k3,[.t 8,.t 9],27,false):=fno (by kernel_rfl)

abbrev o_k5:FuncId:=255
noncomputable def o_k6:C:=codeOf Tryz.prog o_k5
theorem o_k7:fnOf Tryz.prog o_k5=some (o_k6,[.cell 4 true 3,.t 5],29,false):=fno (by kernel_rfl)

abbrev o_k8:FuncId:=256
noncomputable def o_k9:C:=codeOf Tryz.prog o_k8
theorem o_ka:fnOf Tryz.prog o_k8=some (o_k9,[.t 2],9,false):=fno (by kernel_rfl)

abbrev o_kb:FuncId:=257
noncomputable def o_kc:C:=codeOf Tryz.prog o_kb
theorem o_kd:fnOf Tryz.prog o_kb=some (o_kc,[.t 6,.t 7],22,false):=fno (by kernel_rfl)

abbrev o_ke:FuncId:=258
noncomputable def o_kf:C:=codeOf Tryz.prog o_ke
theorem o_kg:fnOf Tryz.prog o_ke=some (o_kf,[.t 4],23,false):=fno (by kernel_rfl)

abbrev o_kh:FuncId:=259
noncomputable def o_ki:C:=codeOf Tryz.prog o_kh
theorem o_kj:fnOf Tryz.prog o_kh=some (o_ki,[.t 6,.t 7],22,false):=fno (by kernel_rfl)

abbrev o_kk:FuncId:=260
noncomputable def o_kl:C:=codeOf Tryz.prog o_kk
theorem o_km:fnOf Tryz.prog o_kk=some (o_kl,[.cell 4 true 3,.t 5],44,false):=fno (by kernel_rfl)

abbrev o_kn:FuncId:=261
noncomputable def o_ko:C:=codeOf Tryz.prog o_kn
theorem o_kp:fnOf Tryz.prog o_kn=some (o_ko,[.t 8,.t 9],31,false):=fno (by kernel_rfl)

abbrev o_kq:FuncId:=262
noncomputable def o_kr:C:=codeOf Tryz.prog o_kq
theorem o_ks:fnOf Tryz.prog o_kq=some (o_kr,[.cell 4 true 1,.t 5],44,false):=fno (by kernel_rfl)

abbrev o_kt:FuncId:=263
noncomputable def o_ku:C:=codeOf Tryz.prog o_kt
theorem o_kv:fnOf Tryz.prog o_kt=some (o_ku,[.t 4],14,false):=fno (by kernel_rfl)

abbrev o_kw:FuncId:=264
noncomputable def o_kx:C:=codeOf Tryz.prog o_kw
theorem o_ky:fnOf Tryz.prog o_kw=some (o_kx,[.t 6,.t 7],61,false):=fno (by kernel_rfl)

abbrev o_kz:FuncId:=265
noncomputable def o_l0:C:=codeOf Tryz.prog o_kz
theorem o_l1:fnOf Tryz.prog o_kz=some (o_l0,[.t 8,.t 9],17,false):=fno (by kernel_rfl)

abbrev o_l2:FuncId:=266
noncomputable def o_l3:C:=codeOf Tryz.prog o_l2
theorem o_l4:fnOf Tryz.prog o_l2=some (o_l3,[.cell 4 true 3,.t 5],11,false):=fno (by kernel_rfl)

abbrev o_l5:FuncId:=267
noncomputable def o_l6:C:=codeOf Tryz.prog o_l5
theorem o_l7:fnOf Tryz.prog o_l5=some (o_l6,[.t 2],5,false):=fno (by kernel_rfl)

abbrev o_l8:FuncId:=269
noncomputable def o_l9:C:=codeOf Tryz.prog o_l8
theorem o_la:fnOf Tryz.prog o_l8=some (o_l9,[.t 6,.t 7],14,false):=fno (by kernel_rfl)

abbrev o_lb:FuncId:=271
noncomputable def o_lc:C:=codeOf Tryz.prog o_lb
theorem o_ld:fnOf Tryz.prog o_lb=some (o_lc,[.t 8,.t 9],42,false):=fno (by kernel_rfl)

abbrev o_le:FuncId:=272
noncomputable def o_lf:C:=codeOf Tryz.prog o_le
theorem o_lg:fnOf Tryz.prog o_le=some (o_lf,[.cell 4 true 3,.t 5],27,false):=fno (by kernel_rfl)

abbrev o_lh:FuncId:=273
noncomputable def o_li:C:=codeOf Tryz.prog o_lh
theorem o_lj:fnOf Tryz.prog o_lh=some (o_li,[.t 2],9,false):=fno (by kernel_rfl)

abbrev o_lk:FuncId:=274
noncomputable def o_ll:C:=codeOf Tryz.prog o_lk
theorem o_lm:fnOf Tryz.prog o_lk=some (o_ll,[.t 6,.t 7],29,false):=fno (by kernel_rfl)

abbrev o_ln:FuncId:=275
noncomputable def o_lo:C:=codeOf Tryz.prog o_ln
theorem o_lp:fnOf Tryz.prog o_ln=some (o_lo,[.t 4],23,false):=fno (by kernel_rfl)

abbrev o_lq:FuncId:=276
noncomputable def o_lr:C:=codeOf Tryz.prog o_lq
theorem o_ls:fnOf Tryz.prog o_lq=some (o_lr,[.t 4,.t 5],14,false):=fno (by kernel_rfl)

abbrev o_lt:FuncId:=277
noncomputable def o_lu:C:=codeOf Tryz.prog o_lt
theorem o_lv:fnOf Tryz.prog o_lt=some (o_lu,[.t 8,.t 9],17,false):=fno (by kernel_rfl)

abbrev o_lw:FuncId:=278
noncomputable def o_lx:C:=codeOf Tryz.prog o_lw
theorem o_ly:fnOf Tryz.prog o_lw=some (o_lx,[.cell 4 true 3,.t 5],11,false):=fno (by kernel_rfl)

abbrev o_lz:FuncId:=279
noncomputable def o_m0:C:=codeOf Tryz.prog o_lz
theorem o_m1:fnOf Tryz.prog o_lz=some (o_m0,[.t 2],5,false):=fno (by kernel_rfl)

abbrev o_m2:FuncId:=281
noncomputable def o_m3:C:=codeOf Tryz.prog o_m2
theorem o_m4:fnOf Tryz.prog o_m2=some (o_m3,[.t 6,.t 7],14,false):=fno (by kernel_rfl)

abbrev o_m5:FuncId:=283
noncomputable def o_m6:C:=codeOf Tryz.prog o_m5
theorem o_m7:fnOf Tryz.prog o_m5=some (o_m6,[.t 8,.t 9],40,false):=fno (by kernel_rfl)

abbrev o_m8:FuncId:=284
noncomputable def o_m9:C:=codeOf Tryz.prog o_m8
theorem o_ma:fnOf Tryz.prog o_m8=some (o_m9,[.cell 4 true 3,.t 5],23,false):=fno (by kernel_rfl)

abbrev o_mb:FuncId:=285
noncomputable def o_mc:C:=codeOf Tryz.prog o_mb
theorem o_md:fnOf Tryz.prog o_mb=some (o_mc,[.t 2],9,false):=fno (by kernel_rfl)

abbrev o_me:FuncId:=286
noncomputable def o_mf:C:=codeOf Tryz.prog o_me
theorem o_mg:fnOf Tryz.prog o_me=some (o_mf,[.t 6,.t 7],25,false):=fno (by kernel_rfl)

abbrev o_mh:FuncId:=287
def o_mi:C:=(.seq (.reg false [oo_ 3 (.box 3 (.t 1)) [],oo_ 4 (.new 307 [(.int .i64 0),(.int .i64 0),.nilsl,.nilsl]) [],oo_ 5 (.mv (.d (.int .i64 0))) []]) (.seq (.block 0 (.seq (.reg false [om_ 10 0 [],oo_ 11 (.call 285 [(.t 10)])
 [0],oo_ 12 (.un .not (.t 11)) [1],om_ 9 12 [2,1]]) (.cond (.t 9) (.seq (.reg false [oo_ 13 (.build [(.int .i64 0),(.int .i64 0),.nilsl,.nilsl] []) [],on_ (.store 4 (.t 4) (.t 13)) [0,0],oo_ 5 (.mv (.d (.int .i64 10)))
 [1,0,1]]) .ret) (.seq (.reg false [oo_ 15 (.load false 1 (.t 3)) [],oo_ 16 (.bin .lss (.t 15) (.d (.int .i64 0))) [0],om_ 17 16 [1],og_ 18 (.load false 1 (.t 3)) 17 false [2],og_ 19 (.bin .gtr (.t 18) (.d (.int .i64
 1023))) 17 false [3,2],oo_ 20 (.pick (.t 17) (.d (.bool true)) (.t 19)) [2,4],om_ 14 20 [5,2]]) (.cond (.t 14) (.seq (.reg false [oo_ 21 (.build [(.int .i64 0),(.int .i64 0),.nilsl,.nilsl] []) [],on_ (.store 4 (.t 4)
 (.t 21)) [0,0],oo_ 5 (.mv (.d (.int .i64 2))) [1,0,1]]) .ret) .skip))))) (.seq (.reg false [oo_ 6 (.new 307 [(.int .i64 0),(.int .i64 0),.nilsl,.nilsl]) []]) (.seq (.seq (.reg false [om_ 22 0 [],oo_ 23 (.call 288 [(.t
 22)]) [0]]) (.block 1 .bad)) (.seq (.reg false [oo_ 30 (.load true 4 (.t 6)) [],on_ (.store 4 (.t 4) (.t 30)) [0,0],oo_ 5 (.mv (.d (.int .i64 0))) [1,0,1]]) .ret)))))
theorem o_mj:fnOf Tryz.prog o_mh=some (o_mi,[.cell 4 true 4,.t 5],31,false):=by kernel_rfl

abbrev n_yu_walk:FuncId:=288
noncomputable def c_yu_walk:C:=codeOf Tryz.prog n_yu_walk
theorem r_yu_walk:fnOf Tryz.prog n_yu_walk=some (c_yu_walk,[.t 2],4,false):=fno (by kernel_rfl)

abbrev o_mk:FuncId:=289
def o_ml:C:=(.seq (.reg false [oo_ 5 (.load false 1 (.t 1)) [],oo_ 6 (.bin .mul (.d (.int .i64 2)) (.t 5)) [0],oo_ 7 (.bin .shl (.d (.int .u64 1)) (.t 6)) [1],oo_ 8 (.bsl 181 1 1 [(.int .u64 0)] [(0,1,(.t 7))]) [2],oo_ 9 (.call 108
 [(.t 8)]) [3],oo_ 10 (.build [(.int .i64 0),(.int .i64 0),.nilsl,.nilsl] [(3,1,(.t 9))]) [4],oo_ 3 (.new 307 [(.int .i64 0),(.int .i64 0),.nilsl,.nilsl]) [],on_ (.store 4 (.t 3) (.t 10)) [6,5,4,0,1,2,3,4,5,6]]) (.seq
 (.reg false [oo_ 4 (.mv (.d (.int .i64 0))) []]) (.block 0 (.loop (.seq (.seq (.reg false [om_ 11 4 [],oo_ 12 (.bin .leq (.t 11) (.d (.int .i64 1023))) [0]]) (.cond (.t 12) .skip (.exit 0))) (.seq (.block 1 (.seq (.seq
 (.reg false [om_ 15 0 [],om_ 16 4 [],oo_ 17 (.load true 4 (.t 3)) [],oo_ 18 (.callv (.t 15) [(.t 16),(.t 17)]) [0,1,2],oo_ 19 (.un .not (.t 18)) [3]]) (.cond (.t 19) .ret .skip)) (.reg false [oo_ 20 (.load true 4 (.t
 3)) [],oo_ 21 (.load false 1 (.t 1)) [],oo_ 22 (.call 290 [(.t 20),(.t 21)]) [0,1],on_ (.store 4 (.t 3) (.t 22)) [2,2,0,1,2]]))) (.reg false [om_ 13 4 [],oo_ 14 (.bin .add (.t 13) (.d (.int .i64 1))) [0],om_ 4 14
 [1,0,1]])))))))
abbrev o_mm:FuncId:=290
noncomputable def o_mn:C:=codeOf Tryz.prog o_mm
theorem o_mo:fnOf Tryz.prog o_mm=some (o_mn,[.cell 4 true 4],41,false):=fno (by kernel_rfl)

abbrev o_mp:FuncId:=291
noncomputable def o_mq:C:=codeOf Tryz.prog o_mp
theorem o_mr:fnOf Tryz.prog o_mp=some (o_mq,[.cell 4 true 1],28,false):=fno (by kernel_rfl)

abbrev o_ms:FuncId:=292
noncomputable def o_mt:C:=codeOf Tryz.prog o_ms
theorem o_mu:fnOf Tryz.prog o_ms=some (o_mt,[.t 4],12,false):=fno (by kernel_rfl)

abbrev o_mv:FuncId:=177
theorem o_mw:Tryz.prog.funcs[o_mv]?=some Tryz.f177:=Tryz.func177
abbrev o_mx:FuncId:=181
theorem o_my:Tryz.prog.funcs[o_mx]?=some Tryz.f181:=Tryz.func181
end
section
def wval:List Nat→Nat
 | []=>0
 | x::l=>x+18446744073709551616*wval l
def small (ws:List Nat):Prop:=∀x∈ws,x<18446744073709551616

theorem o_mz:∀(a b:List Nat),wval (a++b)=wval a+18446744073709551616^a.length*wval b:=by
 intro a
 induction a with
 | nil=>intro b;simp [wval]
 | cons x a ih=>intro b;simp only [List.cons_append,wval,List.length_cons];rw [ih,Nat.pow_succ,Nat.mul_add,←Nat.mul_assoc,Nat.mul_comm 18446744073709551616 (18446744073709551616^a.length)];omega
theorem o_n0:∀n,wval (List.replicate n 0)=0:=by
 intro n
 induction n with
 | zero=>rfl
 | succ n ih=>rw [List.replicate_succ,wval,ih]
theorem o_n1:∀{ws:List Nat},small ws→wval ws<18446744073709551616^ws.length:=by
 intro ws
 induction ws with
 | nil=>intro _;simp [wval]
 | cons x l ih =>
  intro h
  have h1:=h x (by simp)
  have h2:=ih (fun y hy=>h y (by simp [hy]))
  rw [wval,List.length_cons,Nat.pow_succ]
  omega

def trimN (ws:List Nat):Nat→Nat
 | 0=>0
 | n+1=>if ws.getD n 0=0 then trimN ws n else n+1
theorem o_n2 (ws:List Nat) (n:Nat) (h:n<ws.length):ws.take (n+1)=ws.take n++[ws.getD n 0]:=by
 rw [List.take_add_one,List.getElem?_eq_getElem h]
 simp [List.getD,List.getElem?_eq_getElem h]
theorem o_n3 (ws:List Nat):∀n,n≤ws.length→wval (ws.take (trimN ws n))=wval (ws.take n):=by
 intro n
 induction n with
 | zero=>intro _;rfl
 | succ n ih =>
  intro h
  unfold trimN
  split
  ·rename_i h0
   rw [ih (by omega),o_n2 _ _ (by omega),o_mz,h0]
   simp [wval]
  ·rfl
def top1 (ws:List Nat):Prop:=∀k,ws.length=k+1→ws.getD k 0≠0
theorem o_n4 (ws:List Nat):∀n,n≤ws.length→top1 (ws.take (trimN ws n)):=by
 intro n
 induction n with
 | zero=>intro _ k hk;simp [trimN] at hk
 | succ n ih =>
  intro h
  unfold trimN
  split
  ·exact ih (by omega)
  ·rename_i h0
   intro k hk
   rw [List.length_take,Nat.min_eq_left h] at hk
   obtain rfl:n=k:=by omega
   have e:(ws.take (n+1)).getD n 0=ws.getD n 0:=by simp [List.getD]
   rw [e]
   exact h0

theorem small.take {ws:List Nat} (h:small ws) (n:Nat):small (ws.take n):=fun x hx=>h x (List.mem_of_mem_take hx)

theorem o_n5 {ws:List Nat} (h:small ws) (ht:top1 ws) (h0:wval ws=0):ws=[]:=by
 rcases ws.eq_nil_or_concat with rfl | ⟨l,x,rfl⟩
 ·rfl
 ·exfalso
  have:=ht l.length (by simp)
  simp at this
  simp [o_mz,wval] at h0
  rcases Nat.mul_eq_zero.1 h0.2 with h | h
  ·exact absurd h (Nat.pos_iff_ne_zero.1 (Nat.pow_pos (by decide)))
  ·exact this h

theorem o_n6:∀{a b:List Nat},small a→small b→top1 a→top1 b→wval a=wval b→a=b:=by
 intro a
 induction a with
 | nil=>intro b _ hb _ tb h;exact (o_n5 hb tb h.symm).symm
 | cons x a ih =>
  intro b ha hb ta tb h
  cases b with
  | nil=>exact absurd (o_n5 ha ta h) (by simp)
  | cons y b =>
   have h1:=ha x (by simp)
   have h2:=hb y (by simp)
   simp only [wval] at h
   have e:x=y:=by omega
   subst e
   have e2:wval a=wval b:=by omega
   have e3:a=b:=ih (fun z hz=>ha z (by simp [hz])) (fun z hz=>hb z (by simp [hz])) (fun k hk=>by have:=ta (k+1) (by simp [hk]);simpa using this) (fun k hk=>by have:=tb (k+1) (by simp [hk]);simpa using this) e2
   rw [e3]

def movedL (k:Nat):Nat→List Nat→List Nat
 | c,[]=>[c]
 | c,x::l=>((x*2^k)%18446744073709551616+c)::movedL k (x*2^k/18446744073709551616) l
theorem o_n7 (k:Nat):∀(l:List Nat) (c:Nat),(movedL k c l).length=l.length+1:=by
 intro l
 induction l with
 | nil=>intro c;rfl
 | cons x l ih=>intro c;simp [movedL,ih]
theorem o_n8 (k:Nat):∀(l:List Nat) (c:Nat),wval (movedL k c l)=wval l*2^k+c:=by
 intro l
 induction l with
 | nil=>intro c;simp [movedL,wval]
 | cons x l ih =>
  intro c
  rw [movedL,wval,ih,wval]
  have:=Nat.div_add_mod (x*2^k) 18446744073709551616
  rw [Nat.add_mul,Nat.mul_add,Nat.mul_assoc]
  omega
theorem o_n9 {k:Nat} (hk:k<64):∀{l:List Nat} {c:Nat},small l→c<2^k→small (movedL k c l):=by
 have p64:(18446744073709551616:Nat)=2^(64-k)*2^k:=by rw [←Nat.pow_add,show 64-k+k=64 by omega]
 intro l
 induction l with
 | nil =>
  intro c _ hc x hx
  simp [movedL] at hx;subst hx
  exact Nat.lt_trans hc (by rw [show (18446744073709551616:Nat)=2^64 by decide];exact Nat.pow_lt_pow_right (by decide) hk)
 | cons y l ih =>
  intro c h hc x hx
  simp only [movedL,List.mem_cons] at hx
  have hy:=h y (by simp)
  rcases hx with rfl | hx
  ·rw [p64,Nat.mul_mod_mul_right]
   have:y%2^(64-k)<2^(64-k):=Nat.mod_lt _ (Nat.pow_pos (by decide))
   calc _<y%2^(64-k)*2^k+2^k:=by omega
    _=(y%2^(64-k)+1)*2^k:=by rw [Nat.add_mul,Nat.one_mul]
    _≤_:=Nat.mul_le_mul_right _ this
  ·refine ih (fun z hz=>h z (by simp [hz])) ?_ x hx
   apply Nat.div_lt_of_lt_mul
   exact Nat.mul_lt_mul_of_pos_right hy (Nat.pow_pos (by decide))

def movedB (k:Nat):Nat→List Nat→List Nat
 | _,[]=>[]
 | c,x::l=>((x*2^k)%18446744073709551616+c)::movedB k (x*2^k/18446744073709551616) l
def movedC (k:Nat):Nat→List Nat→Nat
 | c,[]=>c
 | _,x::l=>movedC k (x*2^k/18446744073709551616) l
theorem o_na (k:Nat):∀(l:List Nat) (c:Nat),movedL k c l=movedB k c l++[movedC k c l]:=by
 intro l
 induction l with
 | nil=>intro c;rfl
 | cons x l ih=>intro c;simp [movedL,movedB,movedC,ih]
theorem o_nb (k:Nat) (l:List Nat) (c:Nat):(movedB k c l).length=l.length:=by
 have h:=o_n7 k l c
 rw [o_na,List.length_append] at h
 simpa using h
theorem o_nc (k:Nat) (x:Nat):∀(l:List Nat) (c:Nat),movedB k c (l++[x])=movedB k c l++[(x*2^k)%18446744073709551616+movedC k c l]:=by
 intro l
 induction l with
 | nil=>intro c;rfl
 | cons y l ih=>intro c;simp [movedB,movedC,ih]
theorem o_nd (k:Nat) (x:Nat):∀(l:List Nat) (c:Nat),movedC k c (l++[x])=x*2^k/18446744073709551616:=by
 intro l
 induction l with
 | nil=>intro c;rfl
 | cons y l ih=>intro c;simp [movedC,ih]
theorem o_ne {k x:Nat} (hx:x<18446744073709551616):x*2^k/18446744073709551616<2^k:=by
 apply Nat.div_lt_of_lt_mul
 exact Nat.mul_lt_mul_of_pos_right hx (Nat.pow_pos (by decide))
theorem o_nf {k:Nat}:∀{l:List Nat} {c:Nat},small l→c<2^k→movedC k c l<2^k:=by
 intro l
 induction l with
 | nil=>intro c _ hc;exact hc
 | cons x l ih=>intro c h hc;exact ih (fun z hz=>h z (by simp [hz])) (o_ne (h x (by simp)))
theorem o_ng {k x c:Nat} (hk:k<64) (hc:c<2^k):c ||| (x*2^k)%18446744073709551616=(x*2^k)%18446744073709551616+c:=by
 have p64:(18446744073709551616:Nat)=2^(64-k)*2^k:=by rw [←Nat.pow_add,show 64-k+k=64 by omega]
 rw [p64,Nat.mul_mod_mul_right,Nat.or_comm,Nat.mul_comm]
 exact (Nat.two_pow_add_eq_or_of_lt hc _).symm
theorem o_nh {k x:Nat} (hk:k≤64):x*2^k/18446744073709551616=x/2^(64-k):=by
 have p64:(18446744073709551616:Nat)=2^(64-k)*2^k:=by rw [←Nat.pow_add,show 64-k+k=64 by omega]
 rw [p64,Nat.mul_div_mul_right _ _ (Nat.pow_pos (by decide))]

theorem o_ni:∀{ws:List Nat} {m:Nat},top1 ws→wval ws<18446744073709551616^m→ws.length≤m:=by
 intro ws
 induction ws with
 | nil=>intro m _ _;exact Nat.zero_le _
 | cons x l ih =>
  intro m ht h
  cases m with
  | zero =>
   exfalso
   rw [Nat.pow_zero] at h
   rw [wval] at h
   cases l with
   | nil =>
    have:=ht 0 rfl
    simp [wval] at this h
    omega
   | cons y l =>
    have hw:wval (y::l)=0:=by omega
    have:(y::l).length≤0:=ih (m:=0) (fun k hk=>by have:=ht (k+1) (by simp [hk]);simpa using this) (by rw [hw];decide)
    simp at this
  | succ m =>
   rw [List.length_cons]
   have:l.length≤m:=by
    cases l with
    | nil=>exact Nat.zero_le _
    | cons y l =>
     refine ih (fun k hk=>by have:=ht (k+1) (by simp [hk]);simpa using this) ?_
     rw [wval,Nat.pow_succ] at h
     omega
   omega

theorem o_nj (f:Nat→Nat) (n:Nat):wval ((List.range (n+1)).map f)=wval ((List.range n).map f)+18446744073709551616^n*f n:=by
 rw [List.range_succ,List.map_append,o_mz]
 simp [wval]
theorem o_nk (l:List Nat) (n:Nat):wval (l.take (n+1))=wval (l.take n)+18446744073709551616^n*l.getD n 0:=by
 by_cases h:n<l.length
 ·rw [o_n2 _ _ h,o_mz,List.length_take,Nat.min_eq_left (Nat.le_of_lt h)]
  simp [wval]
 ·rw [List.take_of_length_le (by omega),List.take_of_length_le (by omega)]
  simp [List.getD,List.getElem?_eq_none (show l.length≤n by omega)]

def carryW (a b:List Nat):Nat→Nat
 | 0=>0
 | n+1=>(a.getD n 0+b.getD n 0+carryW a b n)/18446744073709551616
def addW (a b:List Nat) (n:Nat):Nat:=(a.getD n 0+b.getD n 0+carryW a b n)%18446744073709551616

theorem small.getD {l:List Nat} (h:small l) (n:Nat):l.getD n 0<18446744073709551616:=by
 by_cases hn:n<l.length
 ·rw [List.getD,List.getElem?_eq_getElem hn];exact h _ (List.getElem_mem hn)
 ·simp [List.getD,List.getElem?_eq_none (show l.length≤n by omega)]
theorem o_nl {a b:List Nat} (ha:small a) (hb:small b):∀n,carryW a b n≤1:=by
 intro n
 induction n with
 | zero=>exact Nat.zero_le _
 | succ n ih =>
  have h1:=ha.getD n
  have h2:=hb.getD n
  simp only [carryW]
  omega
theorem o_nm (a b:List Nat):∀n,wval ((List.range n).map (addW a b))+18446744073709551616^n*carryW a b n=wval (a.take n)+wval (b.take n):=by
 intro n
 induction n with
 | zero=>simp [wval,carryW]
 | succ n ih =>
  rw [o_nj,o_nk,o_nk]
  have:=Nat.div_add_mod (a.getD n 0+b.getD n 0+carryW a b n) 18446744073709551616
  simp only [addW,carryW]
  rw [Nat.pow_succ]
  generalize 18446744073709551616^n=P at *
  generalize (a.getD n 0+b.getD n 0+carryW a b n)/18446744073709551616=q at *
  generalize (a.getD n 0+b.getD n 0+carryW a b n)%18446744073709551616=r at *
  have e:P*(18446744073709551616*q+r)=P*a.getD n 0+P*b.getD n 0+P*carryW a b n:=by rw [this];simp [Nat.mul_add]
  rw [Nat.mul_add,←Nat.mul_assoc] at e
  omega

def borrowW (a b:List Nat):Nat→Nat
 | 0=>0
 | n+1=>if a.getD n 0<b.getD n 0+borrowW a b n then 1 else 0
def subW (a b:List Nat) (n:Nat):Nat:=(a.getD n 0+18446744073709551616-b.getD n 0-borrowW a b n)%18446744073709551616
theorem o_nn (a b:List Nat):∀n,borrowW a b n≤1:=by
 intro n
 cases n with
 | zero=>exact Nat.zero_le _
 | succ n=>simp only [borrowW];split<;>omega
theorem o_no {a b:List Nat} (ha:small a) (hb:small b):∀n,wval ((List.range n).map (subW a b))+wval (b.take n)=wval (a.take n)+18446744073709551616^n*borrowW a b n:=by
 intro n
 induction n with
 | zero=>simp [wval,borrowW]
 | succ n ih =>
  rw [o_nj,o_nk,o_nk]
  have h1:=ha.getD n
  have h2:=hb.getD n
  have h3:=o_nn a b n
  have e:subW a b n+b.getD n 0+borrowW a b n=a.getD n 0+18446744073709551616*borrowW a b (n+1):=by
   simp only [subW,borrowW]
   split<;>omega
  rw [Nat.pow_succ,Nat.mul_assoc]
  generalize 18446744073709551616^n=P at *
  have e2:P*subW a b n+P*b.getD n 0+P*borrowW a b n=P*a.getD n 0+P*(18446744073709551616*borrowW a b (n+1)):=by rw [←Nat.mul_add,←Nat.mul_add,e,Nat.mul_add]
  omega
theorem o_np {f:Nat→Nat} (h:∀i,f i<18446744073709551616) (n:Nat):small ((List.range n).map f):=by
 intro x hx
 obtain ⟨i,_,rfl⟩:=List.mem_map.1 hx
 exact h i
theorem o_nq (a b:List Nat) (i:Nat):addW a b i<18446744073709551616:=Nat.mod_lt _ (by decide)
theorem o_nr (a b:List Nat) (i:Nat):subW a b i<18446744073709551616:=Nat.mod_lt _ (by decide)

theorem o_ns {a b:List Nat} (ha:small a) (hb:top1 b) (h:a.length<b.length):wval a<wval b:=by
 refine Nat.lt_of_lt_of_le (o_n1 ha) ?_
 apply Nat.le_of_not_lt
 intro hlt
 have:=o_ni hb hlt
 omega
def cmpN (a b:List Nat):Nat→Int
 | 0=>0
 | n+1=>if a.getD n 0<b.getD n 0 then -1 else if b.getD n 0<a.getD n 0 then 1 else cmpN a b n
theorem o_nt {l:List Nat} (h:small l) (n:Nat):wval (l.take n)<18446744073709551616^n:=by
 have:=o_n1 (h.take n)
 rw [List.length_take] at this
 exact Nat.lt_of_lt_of_le this (Nat.pow_le_pow_right (by decide) (Nat.min_le_left _ _))
theorem o_nu {a b:List Nat} (ha:small a) (hb:small b):∀n,cmpN a b n=if wval (a.take n)<wval (b.take n) then -1 else if wval (b.take n)<wval (a.take n) then 1 else 0:=by
 intro n
 induction n with
 | zero=>simp [cmpN,wval]
 | succ n ih =>
  rw [o_nk,o_nk]
  have h1:=o_nt ha n
  have h2:=o_nt hb n
  simp only [cmpN]
  generalize 18446744073709551616^n=P at *
  generalize a.getD n 0=x at *
  generalize b.getD n 0=y at *
  by_cases hxy:x<y
  ·rw [if_pos hxy,if_pos]
   have:P*(x+1)≤P*y:=Nat.mul_le_mul_left _ hxy
   rw [Nat.mul_add] at this
   omega
  ·rw [if_neg hxy]
   by_cases hyx:y<x
   ·have:P*(y+1)≤P*x:=Nat.mul_le_mul_left _ hyx
    rw [Nat.mul_add] at this
    rw [if_pos hyx,if_neg (by omega),if_pos (by omega)]
   ·obtain rfl:x=y:=by omega
    rw [if_neg hyx,ih]
    simp only [Nat.add_lt_add_iff_right]
def cmpZ (m n:Nat):Int:=if m<n then -1 else if n<m then 1 else 0
end
section
open Go.RowKit
def W (ws:List Nat):D:=.sl ws.length (ws.map fun x:Nat=>.int .u64 x)

def wordsF:Nat→Nat→List Nat
 | 0,_=>[]
 | f+1,n=>if n=0 then [] else (n%18446744073709551616)::wordsF f (n/18446744073709551616)
def words (n:Nat):List Nat:=wordsF n n

theorem o_nv:∀(f n:Nat),n≤f→wval (wordsF f n)=n∧small (wordsF f n)∧top1 (wordsF f n)
 | 0,n,h=>by
  obtain rfl:n=0:=by omega
  exact ⟨rfl,by simp [small,wordsF],by intro k hk;simp [wordsF] at hk⟩
 | f+1,n,h=>by
  by_cases h0:n=0
  ·subst h0
   simp only [wordsF,if_true]
   exact ⟨rfl,by simp [small],by intro k hk;simp at hk⟩
  ·obtain ⟨h1,h2,h3⟩:=o_nv f (n/18446744073709551616) (by omega)
   simp only [wordsF,if_neg h0]
   refine ⟨by simp only [wval,h1];omega,fun x hx=>?_,fun k hk=>?_⟩
   ·rcases List.mem_cons.1 hx with rfl | hx
    ·omega
    ·exact h2 x hx
   ·cases hl:wordsF f (n/18446744073709551616) with
    | nil =>
     rw [hl] at h1 hk
     simp [wval] at h1 hk
     subst hk
     simp;omega
    | cons y r =>
     rw [hl] at hk h3
     simp at hk
     subst hk
     have:=h3 r.length rfl
     simpa using this
theorem o_nw (n:Nat):wval (words n)=n:=(o_nv n n (Nat.le_refl _)).1
theorem o_nx (n:Nat):small (words n):=(o_nv n n (Nat.le_refl _)).2.1
theorem o_ny (n:Nat):top1 (words n):=(o_nv n n (Nat.le_refl _)).2.2
theorem o_nz {ws:List Nat} (h:small ws) (ht:top1 ws):words (wval ws)=ws:=o_n6 (o_nx _) h (o_ny _) ht (o_nw _)
theorem o_o0 {n:Nat}:words n=[]↔n=0:=by
 constructor
 ·intro h;have:=o_nw n;rw [h] at this;exact this.symm
 ·rintro rfl;rfl

def natW (n:Nat):D:=W (words n)
theorem o_o1 {ws:List Nat} (h:small ws) (ht:top1 ws):natW (wval ws)=W ws:=by rw [natW,o_nz h ht]
theorem o_o2:natW 0 = .sl 0 []:=rfl
def size (n:Nat):Nat:=(words n).length

theorem o_o3 (n:Nat) (l:List D) (hl:l.length=n) (hn:n≤4000000000):Eqn Tryz.prog o_g8 [.d (.sl n l)] [] (.d (.sl n l)) []:=by
 refine Eqn.pure o_ga (o_5e _) ?_
 refine cc (c':=?z0) ?_ ?_
 case refine_1=>cbv<;>exact rfl
 rcases Nat.eq_zero_or_pos n with rfl | h0
 ·have:l=[]:=List.eq_nil_of_length_eq_zero hl
  subst this
  refine AW.empty 0 rfl ?_ ?_
  ·simp
   refine G0 ?_;try with_reducible exact tt
   refine AW.cond rfl (fun h=>?_) (fun h=>?_)
   ·refine G0 ?_;try with_reducible exact tt
    exact Sub1.nil
   ·simp at h
  ·simp
   refine G0 ?_;try with_reducible exact tt
   refine AW.cond rfl (fun h=>?_) (fun h=>?_)
   ·simp at h
   ·refine G0 ?_;try with_reducible exact tt
    exact Sub1.sl0
 ·refine G1 h0 ?_;try with_reducible exact tt
  refine AW.cond rfl (fun h=>?_) (fun h=>?_)
  ·simp at h
  ·refine G0 ?_;try with_reducible exact tt
   have h1:¬n=0:=by omega
   simp [h1,hl]
   refine need.of (by omega) ?_
   refine AW.freeze 0 1 ⟨181,l.map .d⟩ l (by simp) rfl ?_
   simp
   refine G0 ?_;try with_reducible exact tt
   have:l.take n=l:=List.take_of_length_le (by omega)
   simp [this]

theorem o_o4 {ws:List Nat} {k:Nat} (h:k<ws.length):ws[k]=ws.getD k 0:=by simp [List.getD,h]

theorem o_o5 (ws:List Nat) (hs:small ws) (hn:ws.length≤4000000000):Eqn Tryz.prog o_g5 [.d (W ws)] [] (.d (.agg [natW (wval ws)])) []:=by
 refine Eqn.pure o_g7 (o_5e _) ?_
 refine cc (c':=?z1) ?_ ?_
 case refine_1=>cbv<;>exact rfl
 try simp only [W]
 refine G0 ?_;try with_reducible exact tt
 refine AW.loopT (α:=Nat) 1 (fun m=>[(3,.d (.int .i64 (m:Int)))]) (fun _=>[]) (fun m=>m≤ws.length∧trimN ws m=trimN ws ws.length) (fun m=>m) ws.length ?_ ?_ ⟨Nat.le_refl _,rfl⟩ ?_ ?_ ?_
 ·simp
 ·simp
 ·simp
 ·simp
 rintro m ⟨hm,ht⟩
 simp
 have fin:∀k,k=trimN ws ws.length→W (ws.take k)=natW (wval ws):=by
  rintro k rfl
  have:=o_o1 (hs.take (trimN ws ws.length)) (o_n4 ws _ (Nat.le_refl _))
  rw [←this,o_n3 _ _ (Nat.le_refl _),List.take_length]
 cases m with
 | zero =>
  refine G0 ?_;try with_reducible exact tt
  refine AW.cond rfl (fun h=>?_) (fun h=>?_)
  ·simp at h
  refine G0 ?_;try with_reducible exact tt
  refine Sub1.of ?_
  rw [←fin 0 ht]
  simp [W]
 | succ m =>
  have hm':m<ws.length:=hm
  have hp:(0:Int)<(m:Int)+1:=by omega
  have e:(m:Int)+1-1=m:=by omega
  have ew:IntKind.i64.wrap (m:Int)=m:=w64 (by omega) (by omega)
  refine G1 (fs hp (fs e (fs ew hm'))) ?_;try with_reducible exact tt
  refine AW.cond rfl (fun h=>?_) (fun h=>?_)
  ·simp at h
   refine G1 (fs hp (fs e ew)) ?_;try with_reducible exact tt
   refine ⟨m,⟨by omega,?_⟩,?_⟩
   ·rw [←ht,trimN,if_pos]
    rw [←o_o4 hm'];omega
   ·simp
  ·simp at h
   refine G0 ?_;try with_reducible exact tt
   have hk:m+1=trimN ws ws.length:=by
    rw [←ht,trimN,if_neg]
    rw [←o_o4 hm'];omega
   refine G0 ?_;try with_reducible exact tt
   refine Sub1.of ?_
   rw [←fin _ hk]
   simp [W]
   omega

theorem o_o6 (ws:List Nat) (hs:small ws) (hn:ws.length≤4000000000):Eqn Tryz.prog o_cp [.d (W ws)] [] (.d (.agg [natW (wval ws)])) []:=by
 refine Eqn.pure o_cr (o_5e _) ?_
 refine cc (c':=?z2) ?_ ?_
 case refine_1=>cbv<;>exact rfl
 try simp only [W]
 refine G0 ?_;try with_reducible exact tt
 refine CallS.pu (o_o3 _ (ws.map fun x:Nat=>.int .u64 x) (by simp) hn) (R0 ?_);try with_reducible exact tt
 refine CallS.pu (o_o5 ws hs hn) (R0 ?_);try with_reducible exact tt

theorem o_o7 (n:Nat):Eqn Tryz.prog o_cd [.d (.agg [natW n])] [] (.d (.bool (n==0))) []:=by
 refine Eqn.pure o_cf (o_5e _) ?_
 refine cc (c':=?z3) ?_ ?_
 case refine_1=>cbv<;>exact rfl
 try simp only [natW,W]
 refine G0 ?_;try with_reducible exact tt
 refine Sub1.bool ?_
 rw [Bool.eq_iff_iff]
 simp [o_o0]

theorem o_o8 {m n:Nat} (h:size m<size n):m<n:=by
 have:=o_ns (o_nx m) (o_ny n) h
 rwa [o_nw,o_nw] at this

theorem o_o9 (m n:Nat) (hm:size m≤1000000) (hn:size n≤1000000):Eqn Tryz.prog o_ez [.d (.agg [natW m]),.d (.agg [natW n])] [] (.d (.int .i64 (cmpZ m n))) []:=by
 refine Eqn.pure o_f1 (o_5e _) ?_
 unfold size at hm hn
 have sa:=o_nx m
 have sb:=o_nx n
 refine cc (c':=?z4) ?_ ?_
 case refine_1=>cbv<;>exact rfl
 try simp only [natW,W]
 have hz:cmpZ m n=if (words m).length<(words n).length then -1 else if (words n).length<(words m).length then 1 else cmpN (words m) (words n) (words m).length:=by
  split
  ·rename_i h;rw [cmpZ,if_pos (o_o8 h)]
  ·split
   ·rename_i h;have:=o_o8 h;rw [cmpZ,if_neg (by omega),if_pos this]
   ·have:=o_nu sa sb (words m).length
    rw [List.take_length,show (words m).length=(words n).length by omega,List.take_length,o_nw,o_nw] at this
    rw [show (words m).length=(words n).length by omega,this]
    rfl
 rw [hz]
 clear hz
 generalize words m=xs at *
 generalize words n=ys at *
 by_cases hl:xs.length=ys.length
 ·refine G1 hl ?_;try with_reducible exact tt
  refine AW.cond rfl (fun h=>?_) (fun h=>?_)
  ·simp [w64] at h
  refine G1 hl ?_;try with_reducible exact tt
  refine AW.loopT (α:=Nat) 2 (fun m=>[(6,.d (.int .i64 ((m:Int)-1)))]) (fun _=>[]) (fun m=>m≤ys.length∧cmpN xs ys m=cmpN xs ys ys.length) (fun m=>m) ys.length ?_ ?_ ⟨Nat.le_refl _,rfl⟩ ?_ ?_ ?_
  ·simp
  ·simp
  ·simp [hl]
  ·simp
  rintro m ⟨hm',hc⟩
  simp
  cases m with
  | zero =>
   refine G0 ?_;try with_reducible exact tt
   refine AW.cond rfl (fun h=>?_) (fun h=>?_)
   ·simp at h
   refine G0 ?_;try with_reducible exact tt
   refine Sub1.int ?_
   rw [←hc];rfl
  | succ m =>
   have h1:m<xs.length:=by omega
   have h2:m<ys.length:=hm'
   have e:(m:Int)+1-1=m:=by omega
   have ew:IntKind.i64.wrap ((m:Int)-1)=(m:Int)-1:=w64 (by omega) (by omega)
   rw [cmpN,←o_o4 h1,←o_o4 h2] at hc
   refine G1 (fs e (fs h1 h2)) ?_;try with_reducible exact tt
   refine AW.cond rfl (fun h=>?_) (fun h=>?_)
   ·refine G1 (fs e (fs h1 h2)) ?_;try with_reducible exact tt
    refine AW.cond rfl (fun h=>?_) (fun h=>?_)
    ·simp at h
     refine G0 ?_;try with_reducible exact tt
     refine Sub1.int ?_
     rw [if_pos h] at hc
     exact hc
    ·simp at h
     rw [if_neg (by omega)] at hc
     refine G0 ?_;try with_reducible exact tt
     refine AW.cond rfl (fun h=>?_) (fun h=>?_)
     ·simp at h
      refine G0 ?_;try with_reducible exact tt
      refine Sub1.int ?_
      rw [if_pos h] at hc
      exact hc
     ·simp at h
      rw [if_neg (by omega)] at hc
      refine G1 ew ?_;try with_reducible exact tt
      exact ⟨m,⟨by omega,hc⟩,by simp⟩
   ·simp at h
 ·refine G0 ?_;try with_reducible exact tt
  refine AW.cond rfl (fun h=>?_) (fun h=>?_)
  ·refine G0 ?_;try with_reducible exact tt
   refine Sub1.int ?_
   split<;>omega
  ·simp at h
   omega
end
section
open Go.RowKit
abbrev U (ws:List Nat):List V:=ws.map fun x:Nat=>V.d (.int .u64 x)

theorem o_oa (x y c s d:Nat) (hx:x<18446744073709551616) (hy:y<18446744073709551616) (hc:c≤1) (hs:s<18446744073709551616) (e:x+y+c=s+18446744073709551616*d):Eqn Tryz.prog o_mv [.d (.int .u64 x),.d (.int .u64 y),.d (.int .u64 c)] [] (.tup [.d (.int .u64 s),.d (.int .u64 d)]) []:=by
 refine Eqn.extern o_mw (by kernel_rfl) (by kernel_rfl) (by kernel_rfl) (e:=add64Entry) (by kernel_rfl) rfl fun m vs h=>?_
 obtain ⟨v1,r1,rfl,h1,h⟩:=V.reps_cons'.1 h
 obtain ⟨v2,r2,rfl,h2,h⟩:=V.reps_cons'.1 h
 obtain ⟨v3,r3,rfl,h3,h⟩:=V.reps_cons'.1 h
 simp at h;subst h
 rw [V.rep_int] at h1 h2 h3
 subst h1 h2 h3
 have:=run_add64 (P:=Tryz.prog) x y c (by omega) (by omega) (by omega) (by omega) m.w
 refine ⟨_,this,?_⟩
 unfold V.rep
 refine ⟨[.int .u64 (((x:Int)+y+c)%18446744073709551616),.int .u64 (((x:Int)+y+c)/18446744073709551616)],rfl,?_⟩
 simp only [V.reps_cons,V.rep_int,V.reps_nil,and_true]
 constructor<;>congr 1<;>omega

theorem o_ob (x y c s d:Nat) (hx:x<18446744073709551616) (hy:y<18446744073709551616) (hc:c≤1) (hs:s<18446744073709551616) (e:x+18446744073709551616*d=s+y+c):Eqn Tryz.prog o_mx [.d (.int .u64 x),.d (.int .u64 y),.d (.int .u64 c)] [] (.tup [.d (.int .u64 s),.d (.int .u64 d)]) []:=by
 refine Eqn.extern o_my (by kernel_rfl) (by kernel_rfl) (by kernel_rfl) (e:=sub64Entry) (by kernel_rfl) rfl fun m vs h=>?_
 obtain ⟨v1,r1,rfl,h1,h⟩:=V.reps_cons'.1 h
 obtain ⟨v2,r2,rfl,h2,h⟩:=V.reps_cons'.1 h
 obtain ⟨v3,r3,rfl,h3,h⟩:=V.reps_cons'.1 h
 simp at h;subst h
 rw [V.rep_int] at h1 h2 h3
 subst h1 h2 h3
 have:=run_sub64 (P:=Tryz.prog) x y c hc m.w
 refine ⟨_,this,?_⟩
 unfold V.rep
 refine ⟨[.int .u64 s,.int .u64 d],?_,by simp only [V.reps_cons,V.rep_int,V.reps_nil,and_true]⟩
 congr 4
 ·omega
 ·congr 2
  split<;>omega

theorem o_oc (a b:List Nat) (i:Nat):a.getD i 0+b.getD i 0+carryW a b i=addW a b i+18446744073709551616*carryW a b (i+1):=by
 rw [addW,carryW];exact (Nat.mod_add_div _ _).symm
theorem o_od {ws:List Nat} {k:Nat} (h:¬k<ws.length):ws.getD k 0=0:=by simp [List.getD,show ws.length≤k by omega]
theorem o_oe (l:List D):(V.tup (l.map .d)).plain:=by
 have h1:V.lowl 0 (l.map V.d)=true:=by induction l<;>simp_all [V.lowl,V.low]
 have h2:∀θ,V.rens θ (l.map V.d)=l.map V.d:=fun θ=>by induction l<;>simp_all [V.rens,V.ren]
 exact ⟨by simp [V.low,h1],fun θ=>by simp [V.ren,h2]⟩

def rowV (f:Nat→D) (n i:Nat):List V:=(List.range i).map (fun k=>V.d (f k))++List.replicate (n-i) (.d (.int .u64 0))
@[simp] theorem o_of (f:Nat→D) (n i:Nat):(rowV f n i).length=i+(n-i):=by simp [rowV]
theorem out0 (n:Nat) (f:Nat→D):List.replicate n (V.d (.int .u64 0))=rowV f n 0:=by simp [rowV]
theorem o_og {f:Nat→D} {n i:Nat} (h:i<n):(rowV f n i).set i (.d (f i))=rowV f n (i+1):=by
 obtain ⟨k,rfl⟩:∃k,n=i+k+1:=⟨n-i-1,by omega⟩
 rw [rowV,rowV,List.set_append_right _ _ (by simp),List.range_succ,List.map_append,List.append_assoc]
 congr 1
 simp only [List.length_map,List.length_range,Nat.sub_self]
 rw [show i+k+1-i=k+1 by omega,show i+k+1-(i+1)=k by omega]
 simp [List.replicate_succ]
@[simp] theorem o_oh (n:Nat) (f:Nat→D) (k i:Nat):V.lowl n (rowV f k i)=true:=by
 have h1:∀l:List D,V.lowl n (l.map V.d)=true:=fun l=>by induction l<;>simp_all [V.lowl,V.low]
 have:rowV f k i=((List.range i).map f++List.replicate (k-i) (D.int .u64 0)).map .d:=by simp [rowV]
 rw [this,h1]
@[simp] theorem o_oi (l:List V):Subs l l↔True:=iff_true_intro (Subs.refl l)
theorem o_oj {f:Nat→D} {n:Nat} {z:D}:(rowV f (n+1) n).set n (.d z)=((List.range n).map f++[z]).map .d:=by
 rw [rowV,List.set_append_right _ _ (by simp)]
 simp
theorem o_ok {f:Nat→D} {n:Nat}:rowV f n n=((List.range n).map f).map .d:=by simp [rowV]

theorem o_ol (a b:D):(V.tup [.d a,.d b]).plain:=o_oe [a,b]
theorem o_om (a b c:D):(V.tup [.d a,.d b,.d c]).plain:=o_oe [a,b,c]

theorem o_on (m n:Nat) (hm:size m≤1000000) (hn:size n≤1000000):Eqn Tryz.prog o_gb [.d (.agg [natW m]),.d (.agg [natW n])] [] (.d (.agg [natW (m+n)])) []:=by
 refine Eqn.pure o_gd (o_5e _) ?_
 -- the longer one,the other one
 obtain ⟨A,B,hAB,hsA,hsB,hle,hsum,hca,hcb⟩:∃A B:List Nat,(A,B)=(if (words m).length<(words n).length then (words n,words m) else (words m,words n))∧small A∧small B∧B.length≤A.length∧wval A+wval B=m+n∧A.length≤1000000∧B.length≤1000000:=by
  unfold size at hm hn
  by_cases h:(words m).length<(words n).length
  ·exact ⟨words n,words m,by rw [if_pos h],o_nx _,o_nx _,by omega,by rw [o_nw,o_nw];omega,by omega,by omega⟩
  ·exact ⟨words m,words n,by rw [if_neg h],o_nx _,o_nx _,by omega,by rw [o_nw,o_nw],by omega,by omega⟩
 refine cc (c':=?z5) ?_ ?_
 case refine_1=>cbv<;>exact rfl
 try simp only [natW,W]
 generalize words m=xs at *
 generalize words n=ys at *
 unfold size at hm hn
 refine AW.seq (AW.reg mix ?_)
 (simp -implicitDefEqProofs;try simp (disch:=omega) only [w64,wu64])
 refine AW.cut 3 [] [(0,⟨43,[.d (W A)]⟩),(1,⟨43,[.d (W B)]⟩)] ?_ ?_ ?_ ?_
 ·simp
 ·simp
 ·refine G0 ?_;try with_reducible exact tt
  refine AW.cond rfl (fun h=>?_) (fun h=>?_)
  ·simp at h
   rw [if_pos h] at hAB
   cases hAB
   refine G0 ?_;try with_reducible exact tt
   simp [W]
  ·simp at h
   rw [if_neg (by omega)] at hAB
   cases hAB
   refine G0 ?_;try with_reducible exact tt
   simp [W]
 clear hAB hm hn
 simp [W]
 refine G0 ?_;try with_reducible exact tt

 rw [out0 _ (fun k=>.int .u64 (addW A B k:Nat))]
 refine G0 ?_;try with_reducible exact tt
 refine AW.loopT (α:=Nat) 4 (fun i=>[(27,.d (.int .i64 (i:Int))),(6,.d (.int .u64 (carryW A B i:Nat)))]) (fun i=>[(3,⟨181,rowV (fun k=>.int .u64 (addW A B k:Nat)) (A.length+1) i⟩)]) (fun i=>i≤A.length) (fun i=>A.length-i) 0 ?_ ?_ (Nat.zero_le _) ?_ ?_ ?_
 ·simp
 ·simp
 ·simp [carryW]
 ·simp
 rintro i hi
 simp
 by_cases h:i=A.length
 ·subst h
  refine G0 ?_;try with_reducible exact tt
  refine AW.cond rfl (fun h=>?_) (fun h=>?_)
  ·simp at h
  refine AW.exit ?_
  (try (simp -implicitDefEqProofs;try simp (disch:=omega) only [w64,wu64]))
  repeat (first | refine AW.seq ?_ | refine AW.block ?_)
  refine AW.reg mix ?_
  (simp -implicitDefEqProofs;try simp (disch:=omega) only [w64,wu64])
  try refine need.of (by first | omega | kernel_rfl) ?_
  obtain ⟨ws,hl,hr,hv,hs⟩:∃ws:List Nat,ws.length=A.length+1∧(rowV (fun k=>.int .u64 (addW A B k:Nat)) (A.length+1) A.length).set A.length (.d (.int .u64 (carryW A B A.length:Nat)))=U ws∧wval ws=m+n∧small ws:=by
   refine ⟨(List.range A.length).map (addW A B)++[carryW A B A.length],by simp,by rw [o_oj];simp [U],?_,?_⟩
   ·rw [o_mz,←hsum]
    have:=o_nm A B A.length
    rw [List.take_length,List.take_of_length_le hle] at this
    simp [wval]
    rw [←this]
   ·intro x hx
    rcases List.mem_append.1 hx with hx | hx
    ·obtain ⟨k,-,rfl⟩:=List.mem_map.1 hx;exact o_nq _ _ _
    ·simp at hx;subst hx;have:=o_nl hsA hsB A.length;omega
  rw [hr]
  refine AW.freeze 3 1 ⟨181,_⟩ (ws.map fun x:Nat=>.int .u64 x) (by rfl) (by simp) ?_
  simp [←hl,List.take_of_length_le]
  refine G0 ?_;try with_reducible exact tt
  refine CallS.pu (o_o5 ws hs (by omega)) (R0 ?_);try with_reducible exact tt
  refine Sub1.of ?_
  rw [hv];rfl
 ·have hi':i<A.length:=by omega
  have hp:(i:Int)<A.length:=by omega
  have hc:=o_nl hsA hsB i
  have hset:=o_og (f:=fun k=>.int .u64 (addW A B k:Nat)) (n:=A.length+1) (i:=i) (by omega)
  have ew:IntKind.i64.wrap ((i:Int)+1)=(i:Int)+1:=w64 (by omega) (by omega)
  refine G1 (fs hi' hp) ?_;try with_reducible exact tt
  refine AW.cond rfl (fun h=>?_) (fun h=>?_)
  ·clear h
   by_cases hb:i<B.length
   ·have e:A[i]+B[i]+carryW A B i=addW A B i+18446744073709551616*carryW A B (i+1):=by
     rw [←o_oc,o_o4 hi',o_o4 hb]
    refine G1 (fs hi' (fs hp hb)) ?_;try with_reducible exact tt
    refine AW.cond rfl (fun h=>?_) (fun h=>?_)
    ·clear h
     refine G1 (fs hi' (fs hp hb)) ?_;try with_reducible exact tt
     refine CallS.pu (o_oa _ _ _ (addW A B i) (carryW A B (i+1)) (hsA _ (List.getElem_mem _)) (hsB _ (List.getElem_mem _)) hc (o_nq _ _ _) e) (R1 (fs hset ew) ?_);try with_reducible exact tt
     exact ⟨i+1,by omega,by omega,by simp [wk,ew],by simp [wkH]⟩
    ·simp [hb] at h
   ·have e:A[i]+0+carryW A B i=addW A B i+18446744073709551616*carryW A B (i+1):=by
     rw [←o_oc,o_o4 hi',o_od hb]
    refine G1 (fs hi' (fs hp hb)) ?_;try with_reducible exact tt
    refine AW.cond rfl (fun h=>?_) (fun h=>?_)
    ·simp [hb] at h
    ·clear h
     refine G1 (fs hi' (fs hp hb)) ?_;try with_reducible exact tt
     refine CallS.pu (o_oa _ 0 _ (addW A B i) (carryW A B (i+1)) (hsA _ (List.getElem_mem _)) (by omega) hc (o_nq _ _ _) e) (R1 (fs hset ew) ?_);try with_reducible exact tt
     exact ⟨i+1,by omega,by omega,by simp [wk,ew],by simp [wkH]⟩
  ·simp at h
end
section
open Go.RowKit
theorem o_oo {a b:List Nat} (ha:small a) (hb:small b) (i:Nat):a.getD i 0+18446744073709551616*borrowW a b (i+1)=subW a b i+b.getD i 0+borrowW a b i:=by
 have h1:=ha.getD i
 have h2:=hb.getD i
 have h3:=o_nn a b i
 simp only [subW,borrowW]
 split<;>omega
theorem o_op {a b:List Nat} (ha:small a) (hb:small b) (hl:b.length≤a.length) (h:wval b≤wval a):wval ((List.range a.length).map (subW a b))=wval a-wval b:=by
 have h1:=o_no ha hb a.length
 rw [List.take_length,List.take_of_length_le hl] at h1
 have h2:=o_nn a b a.length
 have h3:=o_n1 (o_np (o_nr a b) a.length)
 rw [List.length_map,List.length_range] at h3
 have:borrowW a b a.length=0∨borrowW a b a.length=1:=by omega
 rcases this with e | e
 ·rw [e] at h1;omega
 ·rw [e] at h1;omega
theorem o_oq {m n:Nat} (h:m≤n):size m≤size n:=by
 apply Nat.le_of_not_lt
 intro hlt
 have:=o_o8 hlt
 omega

theorem o_or (m n:Nat) (hm:size m≤1000000) (hle:n≤m):Eqn Tryz.prog o_g2 [.d (.agg [natW m]),.d (.agg [natW n])] [] (.tup [.d (.agg [natW (m-n)]),.d (.int .i64 0)]) []:=by
 refine Eqn.pure o_g4 (o_ol _ _) ?_
 have hs:=o_oq hle
 refine cc (c':=?z6) ?_ ?_
 case refine_1=>cbv<;>exact rfl
 refine G0 ?_;try with_reducible exact tt
 refine CallS.pu (o_o9 m n hm (by omega)) (R0 ?_);try with_reducible exact tt
 have hc:¬cmpZ m n<0:=by unfold cmpZ;split<;>(try split)<;>omega
 refine AW.cond rfl (fun h=>?_) (fun h=>?_)
 ·simp [hc] at h
 clear h
 refine G0 ?_;try with_reducible exact tt
 unfold size at hm hs
 obtain ⟨A,hA⟩:∃A,A=words m:=⟨_,rfl⟩
 obtain ⟨B,hB⟩:∃B,B=words n:=⟨_,rfl⟩
 have hsA:small A:=hA▸o_nx m
 have hsB:small B:=hB▸o_nx n
 have hvA:wval A=m:=by rw [hA,o_nw]
 have hvB:wval B=n:=by rw [hB,o_nw]
 rw [show natW m = .sl A.length (A.map fun x:Nat=>.int .u64 x) by rw [hA];rfl,show natW n = .sl B.length (B.map fun x:Nat=>.int .u64 x) by rw [hB];rfl]
 rw [←hA,←hB] at hs
 rw [←hA] at hm
 clear hA hB
 refine G0 ?_;try with_reducible exact tt
 rw [out0 _ (fun k=>.int .u64 (subW A B k:Nat))]
 refine AW.loopT (α:=Nat) 4 (fun i=>[(23,.d (.int .i64 (i:Int))),(7,.d (.int .u64 (borrowW A B i:Nat)))]) (fun i=>[(3,⟨181,rowV (fun k=>.int .u64 (subW A B k:Nat)) A.length i⟩)]) (fun i=>i≤A.length) (fun i=>A.length-i) 0 ?_ ?_ (Nat.zero_le _) ?_ ?_ ?_
 ·simp
 ·simp
 ·simp [borrowW]
 ·simp
 rintro i hi
 simp
 by_cases h:i=A.length
 ·subst h
  refine G0 ?_;try with_reducible exact tt
  refine AW.cond rfl (fun h=>?_) (fun h=>?_)
  ·simp at h
  refine AW.exit ?_
  (try (simp -implicitDefEqProofs;try simp (disch:=omega) only [w64,wu64]))
  obtain ⟨ws,hl,hr,hv,hs'⟩:∃ws:List Nat,ws.length=A.length∧rowV (fun k=>.int .u64 (subW A B k:Nat)) A.length A.length=U ws∧wval ws=m-n∧small ws:=by
   refine ⟨(List.range A.length).map (subW A B),by simp,by rw [o_ok];simp [U],?_,o_np (o_nr A B) _⟩
   rw [←hvA,←hvB]
   exact o_op hsA hsB hs (by omega)
  rw [hr]
  refine AW.freeze 3 1 ⟨181,_⟩ (ws.map fun x:Nat=>.int .u64 x) (by rfl) (by simp) ?_
  simp [←hl,List.take_of_length_le]
  refine G0 ?_;try with_reducible exact tt
  refine CallS.pu (o_o5 ws hs' (by omega)) (R0 ?_);try with_reducible exact tt
  refine Sub1.of ?_
  rw [hv]
 ·have hi':i<A.length:=by omega
  have hp:(i:Int)<A.length:=by omega
  have hc:=o_nn A B i
  have hset:=o_og (f:=fun k=>.int .u64 (subW A B k:Nat)) (n:=A.length) (i:=i) (by omega)
  have ew:IntKind.i64.wrap ((i:Int)+1)=(i:Int)+1:=w64 (by omega) (by omega)
  have e:=o_oo hsA hsB i
  refine G1 (fs hi' hp) ?_;try with_reducible exact tt
  refine AW.cond rfl (fun h=>?_) (fun h=>?_)
  ·clear h
   by_cases hb:i<B.length
   ·rw [←o_o4 hi',←o_o4 hb] at e
    refine G1 (fs hi' (fs hp hb)) ?_;try with_reducible exact tt
    refine AW.cond rfl (fun h=>?_) (fun h=>?_)
    ·clear h
     refine G1 (fs hi' (fs hp hb)) ?_;try with_reducible exact tt
     refine CallS.pu (o_ob _ _ _ (subW A B i) (borrowW A B (i+1)) (hsA _ (List.getElem_mem _)) (hsB _ (List.getElem_mem _)) hc (o_nr _ _ _) e) (R1 (fs hset ew) ?_);try with_reducible exact tt
     exact ⟨i+1,by omega,by omega,by simp [wk,ew],by simp [wkH]⟩
    ·simp [hb] at h
   ·rw [←o_o4 hi',o_od hb] at e
    refine G1 (fs hi' (fs hp hb)) ?_;try with_reducible exact tt
    refine AW.cond rfl (fun h=>?_) (fun h=>?_)
    ·simp [hb] at h
    ·clear h
     refine G1 (fs hi' (fs hp hb)) ?_;try with_reducible exact tt
     refine CallS.pu (o_ob _ 0 _ (subW A B i) (borrowW A B (i+1)) (hsA _ (List.getElem_mem _)) (by omega) hc (o_nr _ _ _) e) (R1 (fs hset ew) ?_);try with_reducible exact tt
     exact ⟨i+1,by omega,by omega,by simp [wk,ew],by simp [wkH]⟩
  ·simp at h
end
section
open Go.RowKit
def rowM (k:Nat) (A:List Nat) (i:Nat):List Nat:=movedL k 0 (A.take i)++List.replicate (A.length-i) 0
theorem o_os (k:Nat) (A:List Nat) (i:Nat) (h:i≤A.length):(rowM k A i).length=A.length+1:=by
 rw [rowM,List.length_append,o_n7,List.length_take,List.length_replicate];omega
theorem o_ot (k:Nat) (A:List Nat):rowM k A 0=List.replicate (A.length+1) 0:=by simp [rowM,movedL,List.replicate_succ]
theorem o_ou (k:Nat) (A:List Nat):rowM k A A.length=movedL k 0 A:=by simp [rowM]
theorem o_ov (k:Nat) (A:List Nat) (i:Nat) (h:i<A.length):(rowM k A i).getD i 0=movedC k 0 (A.take i):=by
 have e:i=(movedB k 0 (A.take i)).length:=by rw [o_nb,List.length_take];omega
 rw [rowM,o_na,List.append_assoc,List.getD,List.getElem?_append_right (by omega),show i-(movedB k 0 (A.take i)).length=0 by omega]
 rfl
theorem o_ow (k:Nat) (A:List Nat) (i:Nat) (h:i<A.length):((rowM k A i).set i (A.getD i 0*2^k%18446744073709551616+movedC k 0 (A.take i))).set (i+1) (A.getD i 0*2^k/18446744073709551616)=rowM k A (i+1):=by
 have e:(movedB k 0 (A.take i)).length=i:=by rw [o_nb,List.length_take];omega
 obtain ⟨r,hr⟩:∃r,A.length=i+r+1:=⟨A.length-i-1,by omega⟩
 rw [rowM,rowM,o_na,o_na,o_n2 _ _ h,o_nc,o_nd,hr,show i+r+1-i=r+1 by omega,show i+r+1-(i+1)=r by omega,List.replicate_succ]
 simp only [List.append_assoc,List.cons_append,List.nil_append]
 rw [List.set_append_right _ _ (by omega),List.set_append_right _ _ (by omega),e]
 simp

def cellM (k:Nat) (A:List Nat) (i:Nat):List V:=U (rowM k A i)
@[simp] theorem o_ox (n:Nat) (l:List Nat):V.lowl n (U l)=true:=by induction l<;>simp_all [U,V.lowl,V.low]

set_option maxHeartbeats 1000000 in
theorem o_oy (A:List Nat) (k:Nat) (hk:k<64) (hs:small A) (hn:A.length≤1000000):Eqn Tryz.prog o_it [.d (W A),.d (.int .i64 k)] [] (.d (W (movedL k 0 A))) []:=by
 refine Eqn.pure o_iv (o_5e _) ?_
 refine cc (c':=?z7) ?_ ?_
 case refine_1=>cbv<;>exact rfl
 try simp only [W]
 refine G0 ?_;try with_reducible exact tt
 rw [show List.replicate (A.length+1) (V.d (.int .u64 0))=cellM k A 0 by rw [cellM,o_ot];simp [U]]
 have hlow:∀i,V.lowl 1 (cellM k A i)=true:=fun i=>o_ox 1 _
 refine AW.loopT (α:=Nat) 1 (fun i=>[(14,.d (.int .i64 (i:Int)))]) (fun i=>[(0,⟨181,cellM k A i⟩)]) (fun i=>i≤A.length) (fun i=>A.length-i) 0 ?_ ?_ (Nat.zero_le _) ?_ ?_ ?_
 ·simp
 ·simp
 ·simp
 ·simp [hlow]
 rintro i hi
 simp
 by_cases h:i=A.length
 ·subst h
  refine G0 ?_;try with_reducible exact tt
  refine AW.cond rfl (fun h=>?_) (fun h=>?_)
  ·simp at h
  refine AW.exit ?_
  (try (simp -implicitDefEqProofs;try simp (disch:=omega) only [w64,wu64]))
  have hl:(movedL k 0 A).length=A.length+1:=o_n7 _ _ _
  rw [cellM,o_ou]
  generalize movedL k 0 A=ws at hl
  refine AW.freeze 0 1 ⟨181,_⟩ (ws.map fun x:Nat=>.int .u64 x) (by rfl) (by simp) ?_
  simp [←hl,List.take_of_length_le]
  refine G0 ?_;try with_reducible exact tt
 ·have hi':i<A.length:=by omega
  have hp:(i:Int)<A.length:=by omega
  obtain ⟨c,y,u,hl,hq,hor,hw,hd,hset⟩:∃c z u:Nat,(cellM k A i).length=A.length+1∧(cellM k A i)[i]?=some (.d (.int .u64 c))∧bits BinOp.or IntKind.u64 (c:Int) (IntKind.u64.wrap ((A[i]:Int)*2^k))=(z:Int) ∧
    True∧(A[i]:Int)/2^(64-k)=(u:Int)∧((cellM k A i).set i (.d (.int .u64 z))).set (i+1) (.d (.int .u64 u))=cellM k A (i+1):=by
   have hl:=o_os k A i hi
   have hc:=o_nf (k:=k) (l:=A.take i) (c:=0) (hs.take i) (Nat.two_pow_pos k)
   have hset:=o_ow k A i hi'
   rw [←o_o4 hi'] at hset
   refine ⟨movedC k 0 (A.take i),A[i]*2^k%18446744073709551616+movedC k 0 (A.take i),A[i]*2^k/18446744073709551616,by simp [cellM,U,hl],?_,?_,trivial,?_,?_⟩
   ·have:=o_ov k A i hi'
    rw [List.getD,List.getElem?_eq_getElem (by omega)] at this
    rw [cellM,U,List.getElem?_map,List.getElem?_eq_getElem (by omega)]
    simp at this
    simp [this]
   ·rw [show IntKind.u64.wrap ((A[i]:Int)*2^k)=((A[i]*2^k%18446744073709551616:Nat):Int) by rw [IntKind.wrap_u64,Int.natCast_emod,Int.natCast_mul,Int.natCast_pow];rfl]
    rw [bits_or_u64_nat _ _ (Nat.lt_of_lt_of_le hc (by rw [show (18446744073709551616:Nat)=2^64 by rfl];exact Nat.pow_le_pow_right (by decide) (by omega))) (Nat.mod_lt _ (by decide)),o_ng hk hc]
   ·rw [o_nh (by omega),Int.natCast_ediv,Int.natCast_pow];rfl
   ·rw [cellM,cellM,←hset,U,U,List.map_set,List.map_set]
  have hn:((64:Int)-k).toNat=64-k:=by omega
  have e1:IntKind.i64.wrap ((i:Int)+1)=(i:Int)+1:=w64 (by omega) (by omega)
  have e2:IntKind.i64.wrap ((64:Int)-k)=(64:Int)-k:=w64 (by omega) (by omega)
  generalize cellM k A i=cm at hl hq hset
  refine G1 (fs hi' hp) ?_;try with_reducible exact tt
  refine AW.cond rfl (fun h=>?_) (fun h=>?_)
  ·clear h
   refine G1 (fs hi' (fs hp (fs hl (fs hq (fs hor (fs e1 (fs e2 (fs hn (fs hd hset))))))))) ?_;try with_reducible exact tt
   exact ⟨i+1,by omega,by omega,by simp [wk],by simp [wkH,hlow]⟩
  ·simp at h
end
section
open Go.RowKit
theorem o_oz (n:Nat):(words n).length=size n:=rfl

set_option maxHeartbeats 1000000 in
theorem o_p0 (a n:Nat) (ha:size a≤1000000) (hn:n≤8192):Eqn Tryz.prog o_ie [.d (.agg [natW a]),.d (.int .i64 n)] [] (.tup [.d (.agg [natW (a*2^n)]),.d (.int .i64 0)]) []:=by
 refine Eqn.pure o_ig (o_ol _ _) ?_
 refine cc (c':=?z8) ?_ ?_
 case refine_1=>cbv<;>exact rfl
 try simp only [natW,W]
 have h1:¬(n:Int)<0:=by omega
 have h2:¬(8192:Int)<n:=by omega
 refine G1 (fs h1 h2) ?_;try with_reducible exact tt
 refine AW.cond rfl (fun h=>?_) (fun h=>?_)
 ·simp [h1,h2] at h
 have hq:(n:Int)/64=(n/64:Nat):=rfl
 have hr:(n:Int).tmod 64=(n%64:Nat):=by rw [Int.tmod_eq_emod_of_nonneg (by omega)];rfl
 have hd:n/64≤128:=by omega
 have hm:n%64<64:=by omega
 have hv:∀l:List Nat,wval l=a→wval (List.replicate (n/64) 0++movedL (n%64) 0 l)=a*2^n:=by
  intro l hl
  rw [o_mz,o_n0,o_n8,List.length_replicate,hl,Nat.zero_add,Nat.add_zero]
  rw [show (18446744073709551616:Nat)=2^64 by rfl,←Nat.pow_mul,Nat.mul_left_comm,←Nat.pow_add,Nat.div_add_mod]
 replace hv:=hv (words a) (o_nw a)
 have hsm:small (List.replicate (n/64) 0++movedL (n%64) 0 (words a)):=by
  intro x hx
  rcases List.mem_append.1 hx with hx | hx
  ·rw [List.eq_of_mem_replicate hx];omega
  ·exact o_n9 hm (o_nx a) (Nat.two_pow_pos _) x hx
 have hl:=o_n7 (n%64) (words a) 0
 generalize n/64=q at *
 generalize n%64=r at *
 unfold size at ha
 refine G1 (fs hq hr) ?_;try with_reducible exact tt
 refine CallS.pu (o_oy (words a) r hm (o_nx a) (by omega)) ?_
 (try (simp -implicitDefEqProofs [W,hl];try simp (disch:=omega) only [w64,wu64]))
 repeat (first | refine AW.seq ?_ | refine AW.block ?_ | (refine AW.reg mix ?_;simp -implicitDefEqProofs [W,hl];try simp (disch:=omega) only [w64,wu64]) | (refine need.of (by first | omega | kernel_rfl) ?_) | (refine AW.fin ?_;try simp -implicitDefEqProofs [W,hl]))
 have hlen:(List.replicate q 0++movedL r 0 (words a)).length=q+((words a).length+1):=by simp [hl]
 have hcell:List.replicate q (V.d (.int .u64 0))++List.map (V.d ∘ fun x:Nat=>D.int .u64 x) (movedL r 0 (words a))=((List.replicate q 0++movedL r 0 (words a)).map fun x:Nat=>D.int .u64 x).map V.d:=by simp
 rw [hcell]
 generalize List.replicate q 0++movedL r 0 (words a)=ws at *
 have hlen2:q+((words a).length+1)=ws.length:=hlen.symm
 refine CallS.pf 3 1 ⟨181,_⟩ (ws.map fun x:Nat=>.int .u64 x) (o_o5 ws hsm (by omega)) (by first | rfl | (simp [natW,W,hlen2,List.take_of_length_le];done)) ?_
 (try (simp -implicitDefEqProofs [natW,W,hlen2,List.take_of_length_le];try simp (disch:=omega) only [w64,wu64]))
 repeat (first | refine AW.seq ?_ | refine AW.block ?_ | (refine AW.reg mix ?_;simp -implicitDefEqProofs [natW,W,hlen2,List.take_of_length_le];try simp (disch:=omega) only [w64,wu64]) | (refine need.of (by first | omega | kernel_rfl) ?_) | (refine AW.fin ?_;try simp -implicitDefEqProofs [natW,W,hlen2,List.take_of_length_le]))
 refine Sub1.of ?_
 rw [hv]
end
section
open Go.RowKit
theorem o_p1 {x:Nat} (h0:0<x) (h:x<18446744073709551616):words x=[x]:=by
 have:=o_nz (ws:=[x]) (by intro y hy;simp at hy;omega) (by intro k hk;simp at hk;subst hk;simp;omega)
 simpa [wval] using this
theorem o_p2 {x:Nat} (h:x<18446744073709551616):small [x]:=by intro y hy;simp at hy;omega

theorem Sub1.tup {l r:List V} (h:Subs l r):Sub1 (.tup l) (.tup r):=fun m v k=>by
 unfold V.rep at k ⊢
 obtain ⟨vs,h1,h2⟩:=k
 exact ⟨vs,h1,h m vs h2⟩
theorem Subs.cons {x y:V} {l r:List V} (h:Sub1 x y) (h':Subs l r):Subs (x::l) (y::r):=fun m vs k=>by
 obtain ⟨v,r,rfl,h1,h2⟩:=V.reps_cons'.1 k
 exact V.reps_cons.2 ⟨h m v h1,h' m r h2⟩
theorem Sub1.nat0:Sub1 (.d (.agg [.nilsl])) (.d (.agg [natW 0])):=fun m v k=>by
 rw [V.rep_d] at k ⊢
 unfold D.rep at k ⊢
 obtain ⟨vs,h1,h2,h3⟩:=k
 refine ⟨vs,h1,h2,?_⟩
 obtain ⟨u,r,rfl,h4,h5⟩:=D.reps_cons'.1 h3
 have:=(V.rep_d (m:=m)).1 (Sub1.nil m u (V.rep_d.2 h4))
 exact D.reps_cons.2 ⟨this,h5⟩

theorem o_p3 {m n:Nat}:cmpZ m n<0↔m<n:=by unfold cmpZ;split<;>(try split)<;>omega
theorem o_p4 (x y:Nat) (hx:x<18446744073709551616) (h0:0<y):Eqn Tryz.prog o_hz [.d (.int .u64 0),.d (.int .u64 x),.d (.int .u64 y)] [] (.tup [.d (.int .u64 (x/y:Nat)),.d (.int .u64 (x%y:Nat))]) []:=by
 refine Eqn.pure o_i1 (o_ol _ _) ?_
 refine cc (c':=?z9) ?_ ?_
 case refine_1=>cbv<;>exact rfl
 have h1:¬(y:Int)=0:=by omega
 have h1':¬y=0:=by omega
 have h2:¬(y:Int)≤0:=by omega
 refine G1 (fs h1 (fs h2 h1')) ?_;try with_reducible exact tt
 refine AW.cond rfl (fun h=>?_) (fun h=>?_)
 ·simp [h1'] at h
 refine G1 (fs h1 (fs h2 h1')) ?_;try with_reducible exact tt
 refine AW.cond rfl (fun h=>?_) (fun h=>?_)
 ·simp [h1',h2] at h
 refine G1 (fs h1 (fs h2 h1')) ?_;try with_reducible exact tt
 refine AW.cond rfl (fun h=>?_) (fun h=>?_)
 ·have hle:=Nat.div_le_self x y
  have e1:IntKind.u64.wrap ((x:Int)/y)=(x:Int)/y:=by
   rw [←Int.natCast_ediv]
   generalize x/y=q at *
   exact wu64 (by omega) (by omega)
  have e2:(x:Int).tmod y=((x%y:Nat):Int):=by rw [Int.tmod_eq_emod_of_nonneg (by omega)];rfl
  refine G1 (fs h1 (fs h2 (fs h1' (fs e1 e2)))) ?_;try with_reducible exact tt
 ·simp at h

theorem o_p5 (x y:Nat) (hx:x<18446744073709551616) (h0:0<y) (hy:y<18446744073709551616):Eqn Tryz.prog o_ge [.d (.sl 1 [.int .u64 x]),.d (.int .u64 y)] [] (.tup [.d (.sl 1 [.int .u64 (x/y:Nat)]),.d (.int .u64 (x%y:Nat))]) []:=by
 refine Eqn.pure o_gg (o_ol _ _) ?_
 refine cc (c':=?z10) ?_ ?_
 case refine_1=>cbv<;>exact rfl
 refine G0 ?_;try with_reducible exact tt
 refine AW.loopT (α:=Nat) 1 (fun i=>[(8,.d (.int .i64 ((i:Int)-1))),(7,.d (.int .u64 (if i=0 then (x%y:Nat) else 0)))]) (fun i=>[(0,⟨181,[.d (.int .u64 (if i=0 then (x/y:Nat) else 0))]⟩)]) (fun i=>i≤1) (fun i=>i) 1 ?_ ?_ (Nat.le_refl _) ?_ ?_ ?_
 ·simp
 ·simp
 ·simp
 ·simp
 rintro i hi
 simp
 cases i with
 | zero =>
  refine G0 ?_;try with_reducible exact tt
  refine AW.cond rfl (fun h=>?_) (fun h=>?_)
  ·simp at h
  refine AW.exit ?_
  (try (simp -implicitDefEqProofs;try simp (disch:=omega) only [w64,wu64]))
  refine AW.freeze 0 1 ⟨181,_⟩ [.int .u64 (x/y:Nat)] (by rfl) (by simp) ?_
  simp
  refine G0 ?_;try with_reducible exact tt
 | succ i =>
  obtain rfl:i=0:=by omega
  refine G0 ?_;try with_reducible exact tt
  refine AW.cond rfl (fun h=>?_) (fun h=>?_)
  ·refine G0 ?_;try with_reducible exact tt
   refine CallS.pu (o_p4 x y hx h0) (R0 ?_);try with_reducible exact tt
   exact ⟨0,by omega,rfl,by simp,by simp⟩
  ·simp at h

theorem o_p6 (a b:Nat) (ha:a<18446744073709551616) (h0:0<b) (hb:b<18446744073709551616):Eqn Tryz.prog o_fz [.d (.agg [natW a]),.d (.agg [natW b])] [] (.tup [.d (.agg [natW (a/b)]),.d (.agg [natW (a%b)]),.d (.int .i64 0)]) []:=by
 refine Eqn.pure o_g1 (o_om _ _ _) ?_
 have sa:size a≤1:=by
  rw [size]
  rcases Nat.eq_zero_or_pos a with rfl | h
  ·simp [words,wordsF]
  ·rw [o_p1 h ha];simp
 have sb:size b≤1:=by rw [size,o_p1 h0 hb];simp
 refine cc (c':=?z11) ?_ ?_
 case refine_1=>cbv<;>exact rfl
 refine G0 ?_;try with_reducible exact tt
 refine CallS.pu (o_o7 b) (R0 ?_);try with_reducible exact tt
 have hz:(b==0)=false:=by simp;omega
 refine AW.cond rfl (fun h=>?_) (fun h=>?_)
 ·simp [hz] at h
 refine G0 ?_;try with_reducible exact tt
 refine CallS.pu (o_o9 a b (by omega) (by omega)) (R0 ?_);try with_reducible exact tt
 refine AW.cond rfl (fun h=>?_) (fun h=>?_)
 ·have hlt:a<b:=by simpa [o_p3] using h
  rw [Nat.div_eq_of_lt hlt,Nat.mod_eq_of_lt hlt]
  refine G0 ?_;try with_reducible exact tt
  refine CallS.pu (o_o6 (words a) (o_nx a) (by unfold size at sa;omega)) (R0 ?_);try with_reducible exact tt
  rw [o_nw]
  exact Sub1.tup (Subs.cons (Sub1.nat0) (Subs.refl _))
 ·have hge:¬a<b:=fun hlt=>by simp [o_p3,hlt] at h
  have e:natW a = .sl 1 [.int .u64 a]:=by rw [natW,o_p1 (by omega) ha];rfl
  have e':natW b = .sl 1 [.int .u64 b]:=by rw [natW,o_p1 (by omega) hb];rfl
  refine G1 (fs e e') ?_;try with_reducible exact tt
  refine AW.cond rfl (fun h=>?_) (fun h=>?_)
  ·refine G1 (fs e e') ?_;try with_reducible exact tt
   refine CallS.pu (o_p5 a b ha h0 hb) (R0 ?_);try with_reducible exact tt
   refine CallS.pu (o_o5 [a/b] (o_p2 (by have:=Nat.div_le_self a b;omega)) (by simp)) (R0 ?_);try with_reducible exact tt
   refine CallS.pf 4 1 ⟨181,_⟩ [.int .u64 (a%b:Nat)] (o_o6 [a%b] (o_p2 (by have:=Nat.mod_lt a h0;omega)) (by simp)) (by first | rfl | (simp;done)) (R0 ?_);try with_reducible exact tt
   simp [wval]
  ·simp [e'] at h
theorem o_p7 (a b:Nat) (ha:a<18446744073709551616) (hb:b<18446744073709551616):Eqn Tryz.prog o_fw [.d (.agg [natW a]),.d (.agg [natW b])] [] (.d (.agg [natW (Nat.gcd a b)])) []:=by
 refine Eqn.pure o_fy (o_5e _) ?_
 refine cc (c':=?z12) ?_ ?_
 case refine_1=>cbv<;>exact rfl
 refine G0 ?_;try with_reducible exact tt
 refine AW.loopT (α:=Nat×Nat) 3 (fun _=>[]) (fun p=>[(0,⟨43,[.d (natW p.1)]⟩),(1,⟨43,[.d (natW p.2)]⟩)]) (fun p=>p.1<18446744073709551616∧p.2<18446744073709551616∧Nat.gcd p.1 p.2=Nat.gcd a b) (fun p=>p.2) (a,b) ?_ ?_ ⟨ha,hb,rfl⟩ ?_ ?_ ?_
 ·simp
 ·simp
 ·simp
 ·simp
 rintro ⟨x,y⟩ ⟨hx,hy,hg⟩
 simp only at hx hy hg
 simp
 refine G0 ?_;try with_reducible exact tt
 refine CallS.pu (o_o7 y) (R0 ?_);try with_reducible exact tt
 by_cases h0:y=0
 ·subst h0
  simp
  refine AW.cond rfl (fun h=>?_) (fun h=>?_)
  ·simp at h
  refine AW.exit ?_
  (try (simp -implicitDefEqProofs;try simp (disch:=omega) only [w64,wu64]))
  have sx:size x≤1:=by
   rw [size]
   rcases Nat.eq_zero_or_pos x with rfl | h
   ·simp [words,wordsF]
   ·rw [o_p1 h hx];simp
  refine G0 ?_;try with_reducible exact tt
  refine CallS.pu (o_o6 (words x) (o_nx x) (by unfold size at sx;omega)) (R0 ?_);try with_reducible exact tt
  refine Sub1.of ?_
  rw [o_nw,←hg,Nat.gcd_zero_right]
 ·refine AW.cond rfl (fun h=>?_) (fun h=>?_)
  ·refine G0 ?_;try with_reducible exact tt
   refine CallS.pu (o_p6 x y hx (by omega) hy) (R0 ?_);try with_reducible exact tt
   have hlt:=Nat.mod_lt x (show y>0 by omega)
   exact ⟨y,x%y,⟨hy,by omega,by rw [←hg,Nat.gcd_comm y,←Nat.gcd_rec,Nat.gcd_comm]⟩,hlt,Subs.refl _,Subs.refl _⟩
  ·simp at h
   exact absurd h h0
end
section
open Go.RowKit
theorem o_p8 {x:Nat} (h:x<18446744073709551616):size x≤1:=by
 rw [size]
 rcases Nat.eq_zero_or_pos x with rfl | h0
 ·simp [words,wordsF]
 ·rw [o_p1 h0 h];simp

theorem o_p9 (a:Nat):Eqn Tryz.prog o_cj [.d (.bool false),.d (.agg [natW a])] [] (.d (.agg [natW a,.bool false])) []:=by
 refine Eqn.pure o_cl (o_5e _) ?_
 refine cc (c':=?z13) ?_ ?_
 case refine_1=>cbv<;>exact rfl
 refine G0 ?_;try with_reducible exact tt

theorem o_pa (a:Nat) (s:Bool):Eqn Tryz.prog o_ca [.d (.agg [natW a,.bool s])] [] (.d (.agg [natW a])) []:=by
 refine Eqn.pure o_cc (o_5e _) ?_
 refine cc (c':=?z14) ?_ ?_
 case refine_1=>cbv<;>exact rfl
 refine G0 ?_;try with_reducible exact tt

theorem o_pb (a:Nat) (s:Bool):Eqn Tryz.prog o_cm [.d (.agg [natW a,.bool s])] [] (.d (.bool s)) []:=by
 refine Eqn.pure o_co (o_5e _) ?_
 refine cc (c':=?z15) ?_ ?_
 case refine_1=>cbv<;>exact rfl
 refine G0 ?_;try with_reducible exact tt

theorem o_pc (n:Nat) (h:n<9223372036854775808):Eqn Tryz.prog o_9d [.d (.int .i64 n)] [] (.d (.agg [natW n,.bool false])) []:=by
 refine Eqn.pure o_9f (o_5e _) ?_
 refine cc (c':=?z16) ?_ ?_
 case refine_1=>cbv<;>exact rfl
 have h0:¬(n:Int)<0:=by omega
 refine G0 ?_;try with_reducible exact tt
 refine AW.cond rfl (fun h=>?_) (fun h=>?_)
 ·simp [h0] at h
 have e:IntKind.u64.wrap (n:Int)=n:=wu64 (by omega) (by omega)
 refine G1 e ?_;try with_reducible exact tt
 refine CallS.pf 1 1 ⟨181,_⟩ [.int .u64 n] (o_o6 [n] (o_p2 (by omega)) (by simp)) (by first | rfl | (simp;done)) (R0 ?_);try with_reducible exact tt
 refine CallS.pu (o_p9 n) (R0 ?_);try with_reducible exact tt

theorem o_pd (a d:Nat) (s:Bool) (h:size d≤1000000):Eqn Tryz.prog o_cy [.d (.agg [natW a,.bool s,natW d])] [] (.d (.agg [natW (d+1)])) []:=by
 refine Eqn.pure o_d0 (o_5e _) ?_
 refine cc (c':=?z17) ?_ ?_
 case refine_1=>cbv<;>exact rfl
 refine G0 ?_;try with_reducible exact tt
 refine CallS.pf 2 1 ⟨181,_⟩ [.int .u64 (1:Nat)] (o_o6 [1] (o_p2 (by omega)) (by simp)) (by first | rfl | (simp;done)) (R0 ?_);try with_reducible exact tt
 refine CallS.pu (o_on d 1 h (by have:=o_p8 (x:=1) (by omega);omega)) (R0 ?_);try with_reducible exact tt
theorem o_pe (a b:Nat) (ha:a<18446744073709551616) (h0:0<b) (hb:b<18446744073709551616):Eqn Tryz.prog o_cg [.d (.agg [natW a,.bool false]),.d (.agg [natW b])] [] (.d (.agg [natW (a/Nat.gcd a b),.bool false,natW (b/Nat.gcd a b-1)])) []:=by
 refine Eqn.pure o_ci (o_5e _) ?_
 refine cc (c':=?z19) ?_ ?_
 case refine_1=>cbv<;>exact rfl
 have hg:0<Nat.gcd a b:=Nat.gcd_pos_of_pos_right _ h0
 have hg2:Nat.gcd a b≤b:=Nat.gcd_le_right _ h0
 have hq:0<b/Nat.gcd a b:=Nat.div_pos hg2 hg
 have hq2:b/Nat.gcd a b≤b:=Nat.div_le_self _ _
 refine G0 ?_;try with_reducible exact tt
 refine CallS.pu (o_pa a false) (R0 ?_);try with_reducible exact tt
 refine CallS.pu (o_p7 a b ha hb) (R0 ?_);try with_reducible exact tt
 generalize Nat.gcd a b=g at *
 refine CallS.pu (o_pa a false) (R0 ?_);try with_reducible exact tt
 refine CallS.pu (o_p6 a g ha hg (by omega)) (R0 ?_);try with_reducible exact tt
 refine CallS.pu (o_p6 b g hb hg (by omega)) (R0 ?_);try with_reducible exact tt
 refine CallS.pf 8 1 ⟨181,_⟩ [.int .u64 (1:Nat)] (o_o6 [1] (o_p2 (by omega)) (by simp)) (by first | rfl | (simp;done)) (R0 ?_);try with_reducible exact tt
 refine CallS.pu (o_or (b/g) 1 (by have:=o_p8 (x:=b/g) (by omega);omega) (by omega)) (R0 ?_);try with_reducible exact tt
 refine CallS.pu (o_pb a false) (R0 ?_);try with_reducible exact tt
 refine CallS.pu (o_p9 (a/g)) (R0 ?_);try with_reducible exact tt

theorem o_pf (k:Nat) (hk:k<64):Eqn Tryz.prog o_gt [.d (.int .i64 k)] [] (.tup [.d (.agg [natW 1,.bool false,natW (2^k-1)]),.d (.int .i64 0)]) []:=by
 refine Eqn.pure o_gv (o_ol _ _) ?_
 refine cc (c':=?z20) ?_ ?_
 case refine_1=>cbv<;>exact rfl
 refine G0 ?_;try with_reducible exact tt
 refine CallS.pf 1 1 ⟨181,_⟩ [.int .u64 (1:Nat)] (o_o6 [1] (o_p2 (by omega)) (by simp)) (by first | rfl | (simp;done)) (R0 ?_);try with_reducible exact tt
 refine CallS.pu (o_p0 1 k (by have:=o_p8 (x:=1) (by omega);omega) (by omega)) (R0 ?_);try with_reducible exact tt
 refine AW.cond rfl (fun h=>?_) (fun h=>?_)
 ·simp at h
 refine G0 ?_;try with_reducible exact tt
 refine CallS.pu (o_pc 1 (by omega)) (R0 ?_);try with_reducible exact tt
 refine CallS.pu (o_pe 1 (2^k) (by omega) (Nat.two_pow_pos k) (Nat.pow_lt_pow_right (by omega) hk)) (R0 ?_);try with_reducible exact tt
end
section
open Go.RowKit
def lit1:ByteArray:=⟨#[48,49,50,51,52,53,54,55,56,57,97,98,99,100,101,102,103,104,105,106,107,108,109,110,111,112,113,114,115,116,117,118,119,120,121,122]⟩
def lit2:ByteArray:=⟨#[48,48,48,49,48,50,48,51,48,52,48,53,48,54,48,55,48,56,48,57,49,48,49,49,49,50,49,51,49,52,49,53,49,54,49,55,49,56,49,57,50,48,50,49,50,50,50,51,50,52,50,53,50,54,50,55,50,56,50,57,51,48,51,49,51,50,51,51,51,52,51,53,51,54,51,55,51,56,51,57,52,48,52,49,52,50,52,51,52,52,52,53,52,54,52,55,52,56,52,57,53,48,53,49,53,50,53,51,53,52,53,53,53,54,53,55,53,56,53,57,54,48,54,49,54,50,54,51,54,52,54,53,54,54,54,55,54,56,54,57,55,48,55,49,55,50,55,51,55,52,55,53,55,54,55,55,55,56,55,57,56,48,56,49,56,50,56,51,56,52,56,53,56,54,56,55,56,56,56,57,57,48,57,49,57,50,57,51,57,52,57,53,57,54,57,55,57,56,57,57]⟩
theorem o_pg:lit1.size=36:=by kernel_rfl
theorem o_ph:lit2.size=200:=by kernel_rfl
def smallS (n:Nat):ByteArray:=if n<10 then lit1.extract n (n+1) else lit2.extract (n*2) (n*2+2)

theorem o_pi (n:Nat) (h:n<100):Eqn Tryz.prog o_j2 [.d (.int .i64 n)] [] (.d (.str (smallS n))) []:=by
 refine Eqn.pure o_j4 (o_5e _) ?_
 refine cc (c':=?z21) ?_ ?_
 case refine_1=>cbv<;>exact rfl
 rw [show (⟨#[48,49,50,51,52,53,54,55,56,57,97,98,99,100,101,102,103,104,105,106,107,108,109,110,111,112,113,114,115,116,117,118,119,120,121,122]⟩:ByteArray)=lit1 from rfl,show (⟨#[48,48,48,49,48,50,48,51,48,52,48,53,48,54,48,55,48,56,48,57,49,48,49,49,49,50,49,51,49,52,49,53,49,54,49,55,49,56,49,57,50,48,50,49,50,50,50,51,50,52,50,53,50,54,50,55,50,56,50,57,51,48,51,49,51,50,51,51,51,52,51,53,51,54,51,55,51,56,51,57,52,48,52,49,52,50,52,51,52,52,52,53,52,54,52,55,52,56,52,57,53,48,53,49,53,50,53,51,53,52,53,53,53,54,53,55,53,56,53,57,54,48,54,49,54,50,54,51,54,52,54,53,54,54,54,55,54,56,54,57,55,48,55,49,55,50,55,51,55,52,55,53,55,54,55,55,55,56,55,57,56,48,56,49,56,50,56,51,56,52,56,53,56,54,56,55,56,56,56,57,57,48,57,49,57,50,57,51,57,52,57,53,57,54,57,55,57,56,57,57]⟩:ByteArray)=lit2 from rfl]
 have e1:=o_pg
 have e2:=o_ph
 generalize hl1:lit1=l1 at *
 generalize hl2:lit2=l2 at *
 by_cases hs:n<10
 ·have hs':(n:Int)<10:=by omega
  refine G1 hs' ?_;try with_reducible exact tt
  refine AW.cond rfl (fun h=>?_) (fun h=>?_)
  ·have ew:IntKind.i64.wrap ((n:Int)+1)=(n:Int)+1:=w64 (by omega) (by omega)
   refine G1 (fs ew e1) ?_;try with_reducible exact tt
   refine Sub1.of ?_
   rw [smallS,if_pos hs,hl1]
  ·simp [hs] at h
 ·have hs':¬(n:Int)<10:=by omega
  refine G1 hs' ?_;try with_reducible exact tt
  refine AW.cond rfl (fun h=>?_) (fun h=>?_)
  ·simp [hs] at h
  ·have ew:IntKind.i64.wrap ((n:Int)*2)=(n:Int)*2:=w64 (by omega) (by omega)
   have ew2:IntKind.i64.wrap ((n:Int)*2+2)=(n:Int)*2+2:=w64 (by omega) (by omega)
   refine G1 (fs ew (fs ew2 e2)) ?_;try with_reducible exact tt
   refine Sub1.of ?_
   rw [smallS,if_neg hs,hl2,show ((n:Int)*2).toNat=n*2 by omega,show ((n:Int)*2+2).toNat=n*2+2 by omega]

@[simp] theorem o_pj:ByteArray.size ⟨#[]⟩=0:=rfl
@[simp] theorem o_pk:ByteArray.size ⟨#[47]⟩=1:=rfl
theorem o_pl (s:ByteArray):s++(⟨#[]⟩:ByteArray)=s:=by
 exact ByteArray.append_empty
theorem o_pm (n:Nat) (h:n<100):Eqn Tryz.prog o_i2 [.d (.int .u64 n),.d (.int .i64 10)] [] (.d (.str (smallS n))) []:=by
 refine Eqn.pure o_i4 (o_5e _) ?_
 refine cc (c':=?z22) ?_ ?_
 case refine_1=>cbv<;>exact rfl
 have h1:(n:Int)<100:=by omega
 refine G1 h1 ?_;try with_reducible exact tt
 refine AW.cond rfl (fun h=>?_) (fun h=>?_)
 ·refine G1 h1 ?_;try with_reducible exact tt
  refine AW.cond rfl (fun h=>?_) (fun h=>?_)
  ·have e:IntKind.i64.wrap (n:Int)=n:=w64 (by omega) (by omega)
   refine G1 e ?_;try with_reducible exact tt
   refine CallS.pu (o_pi n (by omega)) (R0 ?_);try with_reducible exact tt
  ·simp [h1] at h
 ·simp at h
end
section
def padN:Nat→Nat→List Nat
 | 0,_=>[]
 | w+1,n=>padN w (n/10)++[48+n%10]
theorem o_pn:∀w n,(padN w n).length=w
 | 0,_=>rfl
 | w+1,n=>by rw [padN,List.length_append,o_pn w];rfl
theorem o_po (a:Nat):∀b n,padN (a+b) n=padN a (n/10^b)++padN b n
 | 0,n=>by simp [padN]
 | b+1,n=>by
  rw [←Nat.add_assoc,padN,padN,o_po a b,Nat.div_div_eq_div_mul,Nat.pow_succ,Nat.mul_comm 10,List.append_assoc]
theorem o_pp (u:Nat):padN 4 u=[48+u/1000%10,48+u/100%10,48+u/10%10,48+u%10]:=by
 simp [padN,Nat.div_div_eq_div_mul]
theorem o_pq (u:Nat):padN 2 u=[48+u/10%10,48+u%10]:=by simp [padN]
theorem o_pr:∀w,padN w 0=List.replicate w 48
 | 0=>rfl
 | w+1=>by rw [padN,Nat.zero_div,o_pr w,←List.replicate_succ']
theorem o_ps (a b n:Nat) (h:n<10^b):padN (a+b) n=List.replicate a 48++padN b n:=by
 rw [o_po,Nat.div_eq_of_lt h,o_pr]
theorem o_pt:∀w n,padN w (n%10^w)=padN w n
 | 0,_=>rfl
 | w+1,n=>by
  rw [padN,padN]
  have e1:n%10^(w+1)/10=n/10%10^w:=by rw [Nat.pow_succ,Nat.mul_comm,Nat.mod_mul_right_div_self]
  have e2:n%10^(w+1)%10=n%10:=by rw [Nat.pow_succ,Nat.mul_comm,Nat.mod_mul_right_mod]
  rw [e1,e2,o_pt w]
def ndig (n:Nat):Nat:=if n<10 then 1 else ndig (n/10)+1
termination_by n
decreasing_by omega
theorem o_pu:∀(k n:Nat),10^k≤n→n<10^(k+1)→ndig n=k+1
 | 0,n,_,h2=>by rw [ndig,if_pos (by simpa using h2)]
 | k+1,n,h1,h2=>by
  have h10:10≤n:=Nat.le_trans (by rw [Nat.pow_succ];have:0<10^k:=Nat.pow_pos (by decide);omega) h1
  rw [ndig,if_neg (by omega),o_pu k (n/10) (by rw [Nat.pow_succ] at h1;omega) (by rw [Nat.pow_succ] at h2;omega)]
theorem o_pv (n:Nat):0<ndig n:=by rw [ndig];split<;>omega
theorem o_pw:∀n:Nat,n<10^ndig n:=by
 intro n
 induction n using Nat.strongRecOn with
 | _ n ih =>
  rw [ndig]
  split
  ·simpa using ‹n<10›
  ·have:=ih (n/10) (by omega)
   rw [Nat.pow_succ];omega
theorem o_px:∀(n k:Nat),n<10^k→0<k→ndig n≤k:=by
 intro n
 induction n using Nat.strongRecOn with
 | _ n ih =>
  intro k h hk
  rw [ndig]
  split
  ·exact hk
  ·obtain ⟨j,rfl⟩:∃j,k=j+1:=⟨k-1,by omega⟩
   rcases Nat.eq_zero_or_pos j with rfl | hj
   ·simp at h;omega
   ·have:=ih (n/10) (by omega) j (by rw [Nat.pow_succ] at h;omega) hj
    omega
theorem o_py:∀(k n:Nat),0<n/10^k→ndig n=ndig (n/10^k)+k
 | 0,n,_=>by simp
 | k+1,n,h=>by
  have h1:n/10^(k+1)=n/10/10^k:=by rw [Nat.pow_succ,Nat.mul_comm,Nat.div_div_eq_div_mul]
  have h2:10≤n:=by
   rcases Nat.lt_or_ge n 10 with h3 | h3
   ·rw [h1,show n/10=0 by omega,Nat.zero_div] at h;omega
   ·exact h3
  rw [ndig,if_neg (by omega),o_py k (n/10) (by rw [←h1];exact h),h1];omega
def decN (n:Nat):List Nat:=padN (ndig n) n
theorem o_pz (k n:Nat) (h:0<n/10^k):decN n=decN (n/10^k)++padN k n:=by
 rw [decN,o_py k n h,o_po,decN]
theorem o_q0 (n k:Nat) (h:n<10^k) (hk:0<k):List.replicate (k-(decN n).length) 48++decN n=padN k n:=by
 have h1:=o_px n k h hk
 rw [decN,o_pn,←o_ps _ _ _ (o_pw n),show k-ndig n+ndig n=k by omega]
def bst (l:List Nat):ByteArray:=⟨(l.map UInt8.ofNat).toArray⟩
def txt (n:Nat):ByteArray:=bst (decN n)
theorem o_q1 (a b:List Nat):bst a++bst b=bst (a++b):=by
 unfold bst
 apply ByteArray.ext
 rw [ByteArray.data_append]
 simp
@[simp] theorem o_q2 (l:List Nat):(bst l).size=l.length:=by
 show ((l.map UInt8.ofNat).toArray).size=_
 simp
theorem o_q3:bst []=⟨#[]⟩:=rfl
theorem o_q4 (n:Nat):(decN n).length=ndig n:=o_pn _ _
theorem o_q5 (n b:Nat) (h0:2^(b-1)≤n) (h1:n<2^b) (hb:0<b) (hb2:b≤64):b*78913/262144≤19∧ndig n=b*78913/262144+if 10^(b*78913/262144)≤n then 1 else 0:=by
 have key:∀b∈List.range 65,b*78913/262144≤19∧2^b≤10^(b*78913/262144+1)∧(b*78913/262144=0∨10^(b*78913/262144-1)≤2^(b-1)):=by decide
 obtain ⟨k1,k2,k3⟩:=key b (by simp;omega)
 refine ⟨k1,?_⟩
 generalize b*78913/262144=k at *
 by_cases h:10^k≤n
 ·rw [if_pos h,o_pu k n h (Nat.lt_of_lt_of_le h1 k2)]
 ·rw [if_neg h]
  rcases k3 with k3 | k3
  ·subst k3
   have:0<2^(b-1):=Nat.pow_pos (by decide)
   simp at h;omega
  ·have hk:0<k:=by
    rcases Nat.eq_zero_or_pos k with rfl | hk
    ·have:0<2^(b-1):=Nat.pow_pos (by decide)
     simp at h;omega
    ·exact hk
   obtain ⟨j,rfl⟩:∃j,k=j+1:=⟨k-1,by omega⟩
   rw [o_pu j n (by simpa using Nat.le_trans k3 h0) (by omega)]
theorem o_q6 (A R:List Nat) (m x:Nat):(A++(List.replicate (m+1) 0++R)).set (A.length+m) x=A++(List.replicate m 0++x::R):=by
 rw [List.set_append_right _ _ (by omega),Nat.add_sub_cancel_left,List.set_append_left _ _ (by simp),List.replicate_succ',List.set_append_right _ _ (by simp)]
 simp
end
section
def bitsN (n:Nat):Nat:=if n=0 then 0 else Nat.log2 n+1
theorem o_q7 (n:Nat):n<2^bitsN n:=by
 unfold bitsN
 split
 ·omega
 ·exact Nat.lt_log2_self
theorem o_q8 {n k:Nat} (h:n<2^k):bitsN n≤k:=by
 unfold bitsN
 split
 ·omega
 ·rename_i h0
  have:=(Nat.log2_lt h0).2 h
  omega
def moreY (s t:Nat):Nat:=t+(if t/2^s*2^s<t then t/2^s+1 else t/2^s)
def shiftY (s t:Nat):Nat:=bitsN t-1-2*s
structure Pl where
 x:Nat
 shift:Nat
 value:Nat
 reply:Nat
def nextY (s:Nat) (p:Pl):Pl:=if p.reply≤p.value+2^p.shift then ⟨p.x+1,shiftY s (moreY s p.reply),p.value+2^p.shift,moreY s p.reply⟩ else ⟨p.x,p.shift,p.value+2^p.shift,p.reply⟩
def placeY (s:Nat):Nat→Pl
 | 0=>⟨0,0,0,2^(2*s)⟩
 | k+1=>nextY s (placeY s k)

theorem o_q9 {n k:Nat} (h:2^k≤n):bitsN n=k+bitsN (n/2^k):=by
 have hp:=Nat.two_pow_pos k
 have hq:0<n/2^k:=Nat.div_pos h hp
 have h1:=o_q7 (n/2^k)
 have h2:2^(bitsN (n/2^k)-1)≤n/2^k:=by
  unfold bitsN
  rw [if_neg (by omega),Nat.add_sub_cancel]
  exact Nat.log2_self_le (by omega)
 have h3:0<bitsN (n/2^k):=by unfold bitsN;rw [if_neg (by omega)];omega
 apply Nat.le_antisymm
 ·apply o_q8
  rw [Nat.pow_add,Nat.mul_comm]
  exact (Nat.div_lt_iff_lt_mul hp).1 h1
 ·apply Nat.le_of_not_lt
  intro hlt
  have h4:=o_q7 n
  have h5:2^bitsN n≤2^(k+(bitsN (n/2^k)-1)):=Nat.pow_le_pow_right (by omega) (by omega)
  rw [Nat.pow_add] at h5
  have h6:2^k*2^(bitsN (n/2^k)-1)≤n:=by
   rw [Nat.mul_comm];exact Nat.le_trans (Nat.mul_le_mul_right _ h2) (Nat.div_mul_le_self _ _)
  omega
theorem o_qa {n:Nat} (h:0<n):2^(bitsN n-1)≤n∧0<bitsN n:=by
 unfold bitsN
 rw [if_neg (by omega),Nat.add_sub_cancel]
 exact ⟨Nat.log2_self_le (by omega),by omega⟩

theorem o_qb {s t:Nat} (hs:1≤s) (ht:2≤t):moreY s t≤2*t:=by
 unfold moreY
 have h2:2≤2^s:=by
  calc 2=2^1:=by decide
   _≤2^s:=Nat.pow_le_pow_right (by decide) hs
 have h1:t/2^s≤t/2:=Nat.div_le_div_left h2 (by decide)
 split<;>omega

theorem o_qc {s:Nat} (hs:1≤s):∀k,4≤(placeY s k).reply∧(placeY s k).reply≤2^(2*s+k)∧(placeY s k).shift≤2*s+k∧(placeY s k).value≤k*2^(2*s+k)∧(placeY s k).x≤k:=by
 intro k
 induction k with
 | zero =>
  simp only [placeY]
  have:2^2≤2^(2*s):=Nat.pow_le_pow_right (by decide) (by omega)
  rw [Nat.add_zero]
  omega
 | succ k ih =>
  obtain ⟨h1,h2,h3,h4,h5⟩:=ih
  have hp:2^(2*s+(k+1))=2*2^(2*s+k):=by rw [show 2*s+(k+1)=2*s+k+1 by omega,Nat.pow_succ];omega
  have hm:=o_qb hs (show 2≤(placeY s k).reply by omega)
  have hm4:(placeY s k).reply≤moreY s (placeY s k).reply:=by unfold moreY;omega
  have hsh:2^(placeY s k).shift≤2^(2*s+k):=Nat.pow_le_pow_right (by decide) h3
  have hv:(placeY s k).value+2^(placeY s k).shift≤(k+1)*2^(2*s+(k+1)):=by
   rw [hp,Nat.add_mul,Nat.one_mul,Nat.mul_left_comm]
   generalize 2^(2*s+k)=P at *
   generalize k*P=Q at *
   omega
  have hb:bitsN (moreY s (placeY s k).reply)≤2*s+(k+1)+1:=o_q8 (by
   rw [Nat.pow_succ,hp]
   have:0<2^(2*s+k):=Nat.pow_pos (by decide)
   omega)
  simp only [placeY,nextY]
  split
  ·refine ⟨by simp only;omega,by simp only;omega,?_,hv,by simp only;omega⟩
   simp only [shiftY]
   omega
  ·refine ⟨by simp only;omega,by simp only;omega,by simp only;omega,hv,by simp only;omega⟩
end
section
set_option maxRecDepth 10000
theorem o_qd {y1 y0 u u1 q r:Nat} (e:q*y1+r=u) (hle:q*y0≤r*4294967296+u1) (hgt:u*4294967296+u1<(q+1)*(y1*4294967296+y0)) :
  (u*4294967296+u1)/(y1*4294967296+y0)=q:=by
 have h1:q*(y1*4294967296+y0)≤u*4294967296+u1:=by
  rw [Nat.mul_add,←Nat.mul_assoc,←e,Nat.add_mul]
  omega
 have hpos:0<y1*4294967296+y0:=by
  rcases Nat.eq_zero_or_pos (y1*4294967296+y0) with h | h
  ·rw [h] at hgt;omega
  ·exact h
 exact Nat.div_eq_of_lt_le h1 hgt
theorem lin (a r u u1 b z:Nat) (e:a+r=u) (hc:r*b+u1<z):u*b+u1<a*b+z:=by
 subst e;rw [Nat.add_mul];omega
theorem o_qe {y1 y0 u u1 q r:Nat} (e:q*y1+r=u) (hu:u<y1*4294967296+y0) (hu1:u1<4294967296) (hc:4294967296≤q∨r*4294967296+u1<q*y0) :
  0<q∧(q-1)*y1+(r+y1)=u∧u*4294967296+u1<(q-1+1)*(y1*4294967296+y0):=by
 have hq:0<q:=by
  rcases Nat.eq_zero_or_pos q with h | h
  ·subst h;omega
  ·exact h
 have e1:(q-1)*y1+y1=q*y1:=by
  obtain ⟨k,rfl⟩:∃k,q=k+1:=⟨q-1,by omega⟩
  rw [Nat.add_sub_cancel,Nat.add_mul,Nat.one_mul]
 have e2:q-1+1=q:=by omega
 rw [e2]
 refine ⟨hq,by omega,?_⟩
 rcases hc with hc | hc
 ·have h1:(y1*4294967296+y0)*4294967296≤(y1*4294967296+y0)*q:=Nat.mul_le_mul_left _ hc
  rw [Nat.mul_comm q]
  obtain ⟨p,hp⟩:∃p,p=(y1*4294967296+y0)*q:=⟨_,rfl⟩
  rw [←hp] at h1 ⊢
  clear hp e1
  omega
 ·rw [Nat.mul_add,←Nat.mul_assoc]
  obtain ⟨a,ha⟩:∃a,a=q*y1:=⟨_,rfl⟩
  rw [←ha] at e ⊢
  exact lin a r u u1 _ _ e hc
theorem o_qf {y1 y0 u q r:Nat} (e:q*y1+r=u) (hu:u<y1*4294967296+y0) (hy0:y0<4294967296) (hr:4294967296≤r) (u1:Nat):q*y0≤r*4294967296+u1:=by
 have hq:q<4294967296:=by
  apply Nat.lt_of_not_le
  intro h
  have:4294967296*y1≤q*y1:=Nat.mul_le_mul_right y1 h
  omega
 have:q*y0≤4294967295*4294967295:=Nat.mul_le_mul (by omega) (by omega)
 omega
theorem o_qg {y1 y0 u u1:Nat} (h1:0<y1) (hu1:u1<4294967296):u*4294967296+u1<(u/y1+1)*(y1*4294967296+y0):=by
 have h:=Nat.lt_mul_div_succ u h1
 rw [Nat.mul_comm] at h
 have h2:(u/y1+1)*(y1*4294967296)≤(u/y1+1)*(y1*4294967296+y0):=Nat.mul_le_mul_left _ (by omega)
 rw [←Nat.mul_assoc] at h2
 generalize (u/y1+1)*y1=a at *
 omega

theorem halves' {y a b v0 q1 q0:Nat} (hy:0<y) (h1:a/y=q1) (h0:((a-q1*y)*b+v0)/y=q0) :
  (a*b+v0)/y=q1*b+q0∧(a*b+v0)%y=(a-q1*y)*b+v0-q0*y:=by
 have a1:=Nat.div_add_mod a y
 have b1:=Nat.mod_lt a hy
 rw [h1,Nat.mul_comm] at a1
 obtain ⟨r1,hr1⟩:∃r,r=a%y:=⟨_,rfl⟩
 rw [←hr1] at a1 b1
 have e1:a-q1*y=r1:=by omega
 rw [e1] at h0 ⊢
 have a0:=Nat.div_add_mod (r1*b+v0) y
 have b0:=Nat.mod_lt (r1*b+v0) hy
 rw [h0,Nat.mul_comm] at a0
 obtain ⟨r0,hr0⟩:∃r,r=(r1*b+v0)%y:=⟨_,rfl⟩
 rw [←hr0] at a0 b0
 have e0:r1*b+v0-q0*y=r0:=by omega
 rw [e0]
 have hN:a*b+v0=(q1*b+q0)*y+r0:=by
  have hp:q1*b*y=q1*y*b:=Nat.mul_right_comm _ _ _
  rw [Nat.add_mul,hp,←a1,Nat.add_mul]
  omega
 rw [hN]
 exact ⟨by rw [Nat.mul_comm,Nat.mul_add_div hy,Nat.div_eq_of_lt b0,Nat.add_zero],by rw [Nat.mul_comm,Nat.mul_add_mod];exact Nat.mod_eq_of_lt b0⟩

theorem o_qh {n y s:Nat}:n*2^s/(y*2^s)=n/y∧n*2^s%(y*2^s)/2^s=n%y:=by
 have hp:=Nat.two_pow_pos s
 refine ⟨Nat.mul_div_mul_right _ _ hp,?_⟩
 rw [Nat.mul_mod_mul_right,Nat.mul_div_cancel _ hp]

theorem o_qi {U D B P u1 d1:Nat} (hB:0<B) (hP:0<P) (hU:U/P=u1) (hD:d1*P≤D) (hd:0<d1):U/D≤u1/d1:=by
 rw [Nat.le_div_iff_mul_le hd]
 have hD0:0<D:=Nat.lt_of_lt_of_le (Nat.mul_pos hd hP) hD
 have h1:U/D*D≤U:=Nat.div_mul_le_self U D
 rw [←hU,Nat.le_div_iff_mul_le hP]
 calc U/D*d1*P=U/D*(d1*P):=Nat.mul_assoc _ _ _
  _≤U/D*D:=Nat.mul_le_mul_left _ hD
  _≤U:=h1

theorem o_qj {U D g w P M:Nat} (hM:M=18446744073709551616*P) (hD:D<P) (hD0:0<D) (hg:g≤18446744073709551615) (hw:w<M) (e:w+g*D=U+M) :
  0<g∧(M≤w+D→w+D-M+(g-1)*D=U∧w+D-M<D∧U/D=g-1∧U%D=w+D-M)∧(w+D<M→w+D+(g-1)*D=U+M∧P≤w+D):=by
 have hg0:0<g:=by
  rcases Nat.eq_zero_or_pos g with h | h
  ·subst h;omega
  ·exact h
 have e1:(g-1)*D+D=g*D:=by
  obtain ⟨k,rfl⟩:∃k,g=k+1:=⟨g-1,by omega⟩
  rw [Nat.add_sub_cancel,Nat.add_mul,Nat.one_mul]
 have e2:(g-1)*D≤18446744073709551614*P:=Nat.mul_le_mul (by omega) (by omega)
 obtain ⟨x,hx⟩:∃x,x=(g-1)*D:=⟨_,rfl⟩
 obtain ⟨y,hy⟩:∃y,y=g*D:=⟨_,rfl⟩
 refine ⟨hg0,fun h=>?_,fun h=>?_⟩
 ·have h1:w+D-M+(g-1)*D=U:=by rw [←hx] at e1 ⊢;rw [←hy] at e e1;clear hx hy e2;omega
  have h2:w+D-M<D:=by omega
  refine ⟨h1,h2,?_,?_⟩
  ·rw [←h1,Nat.add_mul_div_right _ _ hD0,Nat.div_eq_of_lt h2,Nat.zero_add]
  ·rw [←h1,Nat.add_mul_mod_self_right];exact Nat.mod_eq_of_lt h2
 ·rw [←hx] at e1 e2 ⊢;rw [←hy] at e e1
  clear hx hy
  subst hM
  constructor
  ·omega
  ·omega
theorem o_qk {U D g w:Nat} (hD0:0<D) (hg:U/D≤g) (e:w+g*D=U):U/D=g∧U%D=w:=by
 have h:g≤U/D:=by rw [Nat.le_div_iff_mul_le hD0];omega
 have hq:U/D=g:=Nat.le_antisymm hg h
 have:=Nat.div_add_mod U D
 rw [hq,Nat.mul_comm] at this
 exact ⟨hq,by omega⟩

def shrL (k:Nat):List Nat→List Nat
 | []=>[]
 | x::l=>(x/2^k+l.getD 0 0*2^(64-k)%18446744073709551616)::shrL k l
theorem o_ql (k:Nat):∀l,(shrL k l).length=l.length
 | []=>rfl
 | x::l=>by simp [shrL,o_ql k l]
theorem o_qm:∀l:List Nat,small l→wval l%18446744073709551616=l.getD 0 0
 | [],_=>rfl
 | x::l,h=>by
  have:=h x (by simp)
  simp only [wval,List.getD_cons_zero]
  omega
theorem o_qn {k:Nat} (hk:k<64):∀l:List Nat,small l→wval (shrL k l)=wval l/2^k∧small (shrL k l)
 | [],_=>⟨by simp [shrL,wval],by simp [shrL,small]⟩
 | x::l,h=>by
  have hl:small l:=fun y hy=>h y (by simp [hy])
  obtain ⟨h1,h2⟩:=o_qn hk l hl
  have hx:=h x (by simp)
  have hhd:=o_qm l hl
  have hB:(18446744073709551616:Nat)=2^k*2^(64-k):=by rw [←Nat.pow_add,show k+(64-k)=64 by omega]
  have hp:=Nat.two_pow_pos k
  have hp':=Nat.two_pow_pos (64-k)
  -- the part that comes from above
  have h3:l.getD 0 0*2^(64-k)%18446744073709551616=wval l%2^k*2^(64-k):=by
   rw [hB,Nat.mul_mod_mul_right,←hhd]
   congr 1
   rw [hB,Nat.mod_mul_right_mod]
  have h4:wval (x::l)/2^k=x/2^k+2^(64-k)*wval l:=by
   rw [wval]
   conv=>lhs;rw [hB]
   rw [Nat.mul_assoc,Nat.add_mul_div_left _ _ hp]
  have h5:2^(64-k)*wval l=18446744073709551616*(wval l/2^k)+wval l%2^k*2^(64-k):=by
   conv=>lhs;rw [←Nat.div_add_mod (wval l) (2^k)]
   rw [Nat.mul_add,←Nat.mul_assoc,Nat.mul_comm (2^(64-k)) (2^k),←hB,Nat.mul_comm (2^(64-k))]
  have h6:x/2^k<2^(64-k):=by
   rw [Nat.div_lt_iff_lt_mul hp,Nat.mul_comm,←hB];exact hx
  have h7:wval l%2^k*2^(64-k)+2^(64-k)≤18446744073709551616:=by
   have:=Nat.mul_le_mul_right (2^(64-k)) (Nat.succ_le_of_lt (Nat.mod_lt (wval l) hp))
   rw [Nat.succ_mul,←hB] at this
   exact this
  refine ⟨?_,?_⟩
  ·rw [h4,h5,shrL,wval,h1,h3]
   omega
  ·intro y hy
   rw [shrL,List.mem_cons] at hy
   rcases hy with rfl | hy
   ·rw [h3];omega
   ·exact h2 y hy
theorem o_qo:∀(q:Nat) (l:List Nat),small l→wval (l.drop q)=wval l/18446744073709551616^q
 | 0,l,_=>by simp
 | q+1,[],_=>by simp [wval]
 | q+1,x::l,h=>by
  have hx:=h x (by simp)
  rw [List.drop_succ_cons,o_qo q l (fun y hy=>h y (by simp [hy])),wval,Nat.pow_succ,Nat.mul_comm (18446744073709551616^q),←Nat.div_div_eq_div_mul]
  congr 1
  omega
end
section
open Go.RowKit
theorem o_qp:∀i:Nat,i<256→(([0,1,2,2,3,3,3,3,4,4,4,4,4,4,4,4,5,5,5,5,5,5,5,5,5,5,5,5,5,5,5,5,6,6,6,6,6,6,6,6,6,6,6,6,6,6,6,6,6,6,6,6,6,6,6,6,6,6,6,6,6,6,6,6,7,7,7,7,7,7,7,7,7,7,7,7,7,7,7,7,7,7,7,7,7,7,7,7,7,7,7,7,7,7,7,7,7,7,7,7,7,7,7,7,7,7,7,7,7,7,7,7,7,7,7,7,7,7,7,7,7,7,7,7,7,7,7,7,8,8,8,8,8,8,8,8,8,8,8,8,8,8,8,8,8,8,8,8,8,8,8,8,8,8,8,8,8,8,8,8,8,8,8,8,8,8,8,8,8,8,8,8,8,8,8,8,8,8,8,8,8,8,8,8,8,8,8,8,8,8,8,8,8,8,8,8,8,8,8,8,8,8,8,8,8,8,8,8,8,8,8,8,8,8,8,8,8,8,8,8,8,8,8,8,8,8,8,8,8,8,8,8,8,8,8,8,8,8,8,8,8,8,8,8,8,8,8,8,8,8,8,8,8,8,8,8]:List UInt8)[i]?.getD 0).toNat=bitsN i:=by
 have h:((List.range 256).all fun i=>(([0,1,2,2,3,3,3,3,4,4,4,4,4,4,4,4,5,5,5,5,5,5,5,5,5,5,5,5,5,5,5,5,6,6,6,6,6,6,6,6,6,6,6,6,6,6,6,6,6,6,6,6,6,6,6,6,6,6,6,6,6,6,6,6,7,7,7,7,7,7,7,7,7,7,7,7,7,7,7,7,7,7,7,7,7,7,7,7,7,7,7,7,7,7,7,7,7,7,7,7,7,7,7,7,7,7,7,7,7,7,7,7,7,7,7,7,7,7,7,7,7,7,7,7,7,7,7,7,8,8,8,8,8,8,8,8,8,8,8,8,8,8,8,8,8,8,8,8,8,8,8,8,8,8,8,8,8,8,8,8,8,8,8,8,8,8,8,8,8,8,8,8,8,8,8,8,8,8,8,8,8,8,8,8,8,8,8,8,8,8,8,8,8,8,8,8,8,8,8,8,8,8,8,8,8,8,8,8,8,8,8,8,8,8,8,8,8,8,8,8,8,8,8,8,8,8,8,8,8,8,8,8,8,8,8,8,8,8,8,8,8,8,8,8,8,8,8,8,8,8,8,8,8,8,8,8]:List UInt8)[i]?.getD 0).toNat==bitsN i)=true:=by kernel_rfl
 intro i hi
 have:=List.all_eq_true.1 h i (List.mem_range.2 hi)
 exact eq_of_beq this

set_option maxHeartbeats 1000000 in
theorem o_qq (x:Nat) (hx:x<18446744073709551616):Eqn Tryz.prog o_f5 [.d (.int .u64 x)] [] (.d (.int .i64 (bitsN x))) []:=by
 refine Eqn.pure o_f7 (o_5e _) ?_
 refine cc (c':=?z27) ?_ ?_
 case refine_1=>cbv<;>exact rfl
 obtain ⟨x1,n1,h1,hx1,hn1,e1⟩:∃x1 n1:Nat,(x1,n1)=(if 4294967296≤x then (x/4294967296,32) else (x,0))∧x1<4294967296∧n1≤32∧bitsN x=n1+bitsN x1:=by
  by_cases h:4294967296≤x
  ·exact ⟨x/4294967296,32,by rw [if_pos h],by omega,by omega,o_q9 (k:=32) h⟩
  ·exact ⟨x,0,by rw [if_neg h],by omega,by omega,by omega⟩
 obtain ⟨x2,n2,h2,hx2,hn2,e2⟩:∃x2 n2:Nat,(x2,n2)=(if 65536≤x1 then (x1/65536,n1+16) else (x1,n1))∧x2<65536∧n2≤48∧bitsN x=n2+bitsN x2:=by
  by_cases h:65536≤x1
  ·exact ⟨x1/65536,n1+16,by rw [if_pos h],by omega,by omega,by have:=o_q9 (k:=16) h;rw [e1,this];simp;omega⟩
  ·exact ⟨x1,n1,by rw [if_neg h],by omega,by omega,by omega⟩
 obtain ⟨x3,n3,h3,hx3,hn3,e3⟩:∃x3 n3:Nat,(x3,n3)=(if 256≤x2 then (x2/256,n2+8) else (x2,n2))∧x3<256∧n3≤56∧bitsN x=n3+bitsN x3:=by
  by_cases h:256≤x2
  ·exact ⟨x2/256,n2+8,by rw [if_pos h],by omega,by omega,by have:=o_q9 (k:=8) h;rw [e2,this];simp;omega⟩
  ·exact ⟨x2,n2,by rw [if_neg h],by omega,by omega,by omega⟩
 rw [e3]
 clear e1 e2 e3
 refine AW.seq (AW.reg mix ?_)
 (simp -implicitDefEqProofs;try simp (disch:=omega) only [w64,wu64])
 refine AW.cut 0 [(0,.d (.int .u64 x1)),(2,.d (.int .i64 n1))] [] (by simp) (by simp) ?_ ?_
 ·have hd:(x:Int)/4294967296=(x/4294967296:Nat):=rfl
  refine G0 ?_;try with_reducible exact tt
  refine AW.cond rfl (fun h=>?_) (fun h=>?_)
  ·rw [if_pos (by simp at h;omega)] at h1
   cases h1
   generalize x/4294967296=q at *
   refine G1 hd ?_;try with_reducible exact tt
  ·rw [if_neg (by simp at h;omega)] at h1
   cases h1
   refine G0 ?_;try with_reducible exact tt
 clear h1 hx
 simp
 refine AW.cut 0 [(0,.d (.int .u64 x2)),(2,.d (.int .i64 n2))] [] (by simp) (by simp) ?_ ?_
 ·have hd:(x1:Int)/65536=(x1/65536:Nat):=rfl
  have ew:IntKind.i64.wrap ((n1:Int)+16)=((n1+16:Nat):Int):=w64 (by omega) (by omega)
  refine G0 ?_;try with_reducible exact tt
  refine AW.cond rfl (fun h=>?_) (fun h=>?_)
  ·rw [if_pos (by simp at h;omega)] at h2
   cases h2
   generalize x1/65536=q at *
   refine G1 (fs hd ew) ?_;try with_reducible exact tt
  ·rw [if_neg (by simp at h;omega)] at h2
   cases h2
   refine G0 ?_;try with_reducible exact tt
 clear h2 hx1 hn1
 simp
 refine AW.cut 0 [(0,.d (.int .u64 x3)),(2,.d (.int .i64 n3))] [] (by simp) (by simp) ?_ ?_
 ·have hd:(x2:Int)/256=(x2/256:Nat):=rfl
  have ew:IntKind.i64.wrap ((n2:Int)+8)=((n2+8:Nat):Int):=w64 (by omega) (by omega)
  refine G0 ?_;try with_reducible exact tt
  refine AW.cond rfl (fun h=>?_) (fun h=>?_)
  ·rw [if_pos (by simp at h;omega)] at h3
   cases h3
   generalize x2/256=q at *
   refine G1 (fs hd ew) ?_;try with_reducible exact tt
  ·rw [if_neg (by simp at h;omega)] at h3
   cases h3
   refine G0 ?_;try with_reducible exact tt
 clear h3 hx2 hn2
 simp
 have ew1:IntKind.u8.wrap (x3:Int)=x3:=by rw [show IntKind.u8.wrap (x3:Int)=(x3:Int)%256 from rfl];omega
 have hb:=o_qp x3 hx3
 have hB:bitsN x3≤8:=o_q8 (by omega)
 have ew2:IntKind.i64.wrap (bitsN x3:Int)=bitsN x3:=w64 (by omega) (by omega)
 have ew3:IntKind.i64.wrap ((n3:Int)+bitsN x3)=(n3:Int)+bitsN x3:=w64 (by omega) (by omega)
 refine AW.seq (AW.reg mix ?_)
 simp [ew1,hb,ew2,ew3]
 refine need.of (Nat.lt_of_lt_of_le hx3 (by decide)) ?_
 refine G0 ?_;try with_reducible exact tt

theorem o_qr (x:Nat) (hx:x<18446744073709551616):Eqn Tryz.prog o_iq [.d (.int .u64 x)] [] (.d (.int .i64 (64-bitsN x:Nat))) []:=by
 refine Eqn.pure o_is (o_5e _) ?_
 refine cc (c':=?z28) ?_ ?_
 case refine_1=>cbv<;>exact rfl
 have hB:bitsN x≤64:=o_q8 (by omega)
 refine G0 ?_;try with_reducible exact tt
 refine CallS.pu (o_qq x hx) (R0 ?_);try with_reducible exact tt
 exact Sub1.int (by omega)

theorem o_qs {l:List Nat} {x:Nat} (hs:small l) (h0:0<x):bitsN (wval (l++[x]))=64*l.length+bitsN x:=by
 have hp:(18446744073709551616:Nat)^l.length=2^(64*l.length):=by rw [show (18446744073709551616:Nat)=2^64 by rfl,←Nat.pow_mul]
 have hlt:=o_n1 hs
 have hv:wval (l++[x])=wval l+2^(64*l.length)*x:=by rw [o_mz,hp];simp [wval]
 rw [hp] at hlt
 rw [hv,o_q9 (k:=64*l.length) (by have:=Nat.le_mul_of_pos_right (2^(64*l.length)) h0;omega),Nat.add_mul_div_left _ _ (Nat.two_pow_pos _),Nat.div_eq_of_lt hlt,Nat.zero_add]

theorem o_qt (n:Nat) (hn:size n≤1000000):Eqn Tryz.prog o_jn [.d (.agg [natW n])] [] (.d (.int .i64 (bitsN n))) []:=by
 refine Eqn.pure o_jp (o_5e _) ?_
 refine cc (c':=?z29) ?_ ?_
 case refine_1=>cbv<;>exact rfl
 try simp only [natW,W]
 unfold size at hn
 have hs:=o_nx n
 have ht:=o_ny n
 have hv:=o_nw n
 generalize words n=ws at *
 rcases List.eq_nil_or_concat ws with rfl | ⟨l,x,rfl⟩
 ·refine G0 ?_;try with_reducible exact tt
  refine AW.cond rfl (fun h=>?_) (fun h=>?_)
  ·refine G0 ?_;try with_reducible exact tt
   rw [←hv]
   exact Sub1.refl _
  ·simp at h
 ·rw [List.concat_eq_append] at *
  have hx0:0<x:=by
   have:=ht l.length (by simp)
   simp [List.getD] at this
   omega
  have hx:x<18446744073709551616:=hs x (by simp)
  have hb:=o_qs (l:=l) (x:=x) (fun y hy=>hs y (by simp [hy])) hx0
  rw [hv] at hb
  have hB:bitsN x≤64:=o_q8 (by omega)
  have hll:l.length≤1000000:=by simp at hn;omega
  have e1:IntKind.i64.wrap ((l.length:Int)+1-1)=(l.length:Int):=by rw [Int.add_sub_cancel];exact w64 (by omega) (by omega)
  have e2:IntKind.i64.wrap ((64:Int)*l.length)=((64*l.length:Nat):Int):=w64 (by omega) (by omega)
  have e0:IntKind.i64.wrap (l.length:Int)=(l.length:Int):=w64 (by omega) (by omega)
  have hne:¬(l.length:Int)+1=0:=by omega
  refine G1 (fs hne (fs e1 (fs e2 e0))) ?_;try with_reducible exact tt
  refine AW.cond rfl (fun h=>?_) (fun h=>?_)
  ·simp at h
   omega
  rw [hb]
  have e3:IntKind.i64.wrap (((64*l.length:Nat):Int)+bitsN x)=((64*l.length+bitsN x:Nat):Int):=w64 (by omega) (by omega)
  generalize 64*l.length=q at *
  refine G1 (fs hne (fs e1 (fs e2 e0))) ?_;try with_reducible exact tt
  refine CallS.pu (o_qq x hx) (R1 e3 ?_);try with_reducible exact tt

theorem o_qu (n:Nat) (l:List D) (hl:l.length=n) (h0:0<n) (hn:n≤4000000000):Eqn Tryz.prog o_g8 [.d (.sl n l)] [] (.own 0 1 n) [⟨181,l.map .d⟩]:=by
 refine Eqn.newX o_ga rfl (o_5m _) (fun n=>rfl) ?_
 refine cc (c':=?z30) ?_ ?_
 case refine_1=>cbv<;>exact rfl
 refine G1 h0 ?_;try with_reducible exact tt
 refine AW.cond rfl (fun h=>?_) (fun h=>?_)
 ·simp at h
 ·refine G0 ?_;try with_reducible exact tt
  have h1:¬n=0:=by omega
  simp [h1,hl]
  refine need.of (by omega) ?_
  refine G0 ?_;try with_reducible exact tt
  exact ⟨0,Sub1.refl _,_,rfl,rfl,Subs.refl _⟩

def shrI (k:Nat) (A:List Nat) (i:Nat):List Nat:=(shrL k A).take i++A.drop i
theorem o_qv (k:Nat):∀(A:List Nat) (i:Nat),i<A.length→(shrL k A).getD i 0=A.getD i 0/2^k+A.getD (i+1) 0*2^(64-k)%18446744073709551616
 | [],i,h=>by simp at h
 | x::l,0,h=>by simp [shrL]
 | x::l,i+1,h=>by
  have:=o_qv k l i (by simpa using h)
  simpa [shrL] using this
theorem o_qw (k:Nat) (A:List Nat) (i:Nat) (h:i≤A.length):(shrI k A i).length=A.length:=by
 rw [shrI,List.length_append,List.length_take,o_ql,List.length_drop];omega
theorem o_qx (k:Nat) (A:List Nat) (i j:Nat) (h:i≤j) (hj:j<A.length):(shrI k A i)[j]?=some (A.getD j 0):=by
 rw [shrI,List.getElem?_append_right (by rw [List.length_take,o_ql];omega),List.length_take,o_ql,List.getElem?_drop,show i+(j-min i A.length)=j by omega]
 simp [List.getD,hj]
theorem o_qy (k:Nat) (A:List Nat) (i:Nat) (h:i<A.length) (y:Nat) (hy:y=(shrL k A).getD i 0):(shrI k A i).set i y=shrI k A (i+1):=by
 have hi:((shrL k A).take i).length=i:=by rw [List.length_take,o_ql];omega
 rw [shrI,shrI,List.set_append_right _ _ (by omega),hi,Nat.sub_self,o_n2 _ _ (by rw [o_ql];exact h),←hy,List.append_assoc]
 congr 1
 rw [List.drop_eq_getElem_cons h]
 rfl
theorem o_qz (k:Nat) (A:List Nat):shrI k A A.length=shrL k A:=by
 rw [shrI,List.drop_length,List.append_nil,List.take_of_length_le (by rw [o_ql];omega)]

theorem o_r0 {k x y:Nat} (hk:k<64) (hx:x<18446744073709551616):x/2^k ||| (y*2^(64-k)%18446744073709551616)=x/2^k+y*2^(64-k)%18446744073709551616:=by
 have hB:(18446744073709551616:Nat)=2^k*2^(64-k):=by rw [←Nat.pow_add,show k+(64-k)=64 by omega]
 have h6:x/2^k<2^(64-k):=by
  rw [Nat.div_lt_iff_lt_mul (Nat.two_pow_pos k),Nat.mul_comm,←hB];exact hx
 have e:y*2^(64-k)%18446744073709551616=2^(64-k)*(y%2^k):=by rw [hB,Nat.mul_mod_mul_right,Nat.mul_comm]
 rw [e,Nat.or_comm,←Nat.two_pow_add_eq_or_of_lt h6,Nat.add_comm]

set_option maxHeartbeats 2000000 in
theorem o_r1 (a n:Nat) (ha:size a≤1000000) (hn:n≤1000000000):Eqn Tryz.prog o_iz [.d (.agg [natW a]),.d (.int .i64 n)] [] (.d (.agg [natW (a/2^n)])) []:=by
 refine Eqn.pure o_j1 (o_5e _) ?_
 refine cc (c':=?z31) ?_ ?_
 case refine_1=>cbv<;>exact rfl
 rw [show natW a = .sl (words a).length ((words a).map fun x:Nat=>.int .u64 x) from rfl]
 unfold size at ha
 have hs:=o_nx a
 have hv:=o_nw a
 generalize words a=ws at *
 have hm:max 0 (n:Int)=n:=by omega
 have hq:(n:Int)/64=(n/64:Nat):=rfl
 have hr:(n:Int).tmod 64=(n%64:Nat):=by rw [Int.tmod_eq_emod_of_nonneg (by omega)];rfl
 have hval:wval (shrL (n%64) (ws.drop (n/64)))=a/2^n∧small (shrL (n%64) (ws.drop (n/64))):=by
  obtain ⟨h1,h2⟩:=o_qn (k:=n%64) (by omega) (ws.drop (n/64)) (fun x hx=>hs x (List.mem_of_mem_drop hx))
  refine ⟨?_,h2⟩
  rw [h1,o_qo _ _ hs,hv,show (18446744073709551616:Nat)=2^64 by rfl,←Nat.pow_mul,Nat.div_div_eq_div_mul,←Nat.pow_add,Nat.div_add_mod]
 have hmk:n%64<64:=by omega
 have hqn:n/64≤n:=Nat.div_le_self _ _
 generalize hk:n%64=k at *
 generalize n/64=q at *
 refine G1 (fs hm hq) ?_;try with_reducible exact tt
 refine AW.cond rfl (fun h=>?_) (fun h=>?_)
 ·have hlen:ws.length≤q:=by simp at h;omega
  refine G0 ?_;try with_reducible exact tt
  rw [List.drop_of_length_le hlen] at hval
  rw [←hval.1]
  exact Sub1.nat0
 ·have hlt:q<ws.length:=by simp at h;omega
  have hlt':(q:Int)<ws.length:=by omega
  have hb1:((ws.length:Int)-q).toNat=(ws.drop q).length:=by rw [List.length_drop];omega
  have hbp:0<(ws.drop q).length∧(ws.drop q).length≤1000000:=by rw [List.length_drop];omega
  have hsB:small (ws.drop q):=fun x hx=>hs x (List.mem_of_mem_drop hx)
  have htk:(V.d (.sl ((ws.length:Int)-q).toNat (((ws.map fun x:Nat=>D.int .u64 x).drop ((q:Int)).toNat).take ((ws.length:Int)-q).toNat)):V) = .d (.sl (ws.drop q).length ((ws.drop q).map fun x:Nat=>D.int .u64 x)):=by
   rw [hb1,Int.toNat_natCast,←List.map_drop,List.take_of_length_le (by simp)]
  refine G1 (fs hm (fs hq hlt')) ?_;try with_reducible exact tt
  generalize hB:ws.drop q=B at *
  refine CallS.newX (o_qu B.length (B.map fun x:Nat=>.int .u64 x) (by simp) hbp.1 (by omega)) (o_5m _) rfl (fun _=>rfl) (Subs.of (by rw [htk])) ?_
  rw [show ((B.map fun x:Nat=>D.int .u64 x).map V.d)=U (shrI k B 0) by simp [U,shrI]]
  simp
  refine G1 hr ?_;try with_reducible exact tt
  clear htk hb1 hv hs ha hB hlt hlt'
  refine AW.loopT (α:=Nat) 3 (fun i=>[(6,.d (.int .i64 (i:Int)))]) (fun i=>[(2,⟨181,U (shrI k B i)⟩)]) (fun i=>i≤B.length) (fun i=>B.length-i) 0 ?_ ?_ (Nat.zero_le _) ?_ ?_ ?_
  ·simp
  ·simp
  ·simp
  ·simp
  rintro i hi
  simp
  by_cases h:i=B.length
  ·subst h
   refine G0 ?_;try with_reducible exact tt
   refine AW.cond rfl (fun h=>?_) (fun h=>?_)
   ·simp at h
   refine AW.exit ?_
   (try (simp -implicitDefEqProofs;try simp (disch:=omega) only [w64,wu64]))
   rw [o_qz]
   have hl:(shrL k B).length=B.length:=o_ql k B
   have hvw:natW (a/2^n)=natW (wval (shrL k B)):=by rw [hval.1]
   rw [hvw]
   have hsm:=hval.2
   generalize shrL k B=r at hl hsm ⊢
   have hcell:U r=(r.map fun x:Nat=>D.int .u64 x).map V.d:=by simp [U]
   rw [hcell]
   refine AW.freeze 2 1 ⟨181,_⟩ (r.map fun x:Nat=>.int .u64 x) (by rfl) (by rfl) ?_
   simp [←hl,List.take_of_length_le]
   refine G0 ?_;try with_reducible exact tt
   refine CallS.pu (o_o5 r hsm (by omega)) (R0 ?_);try with_reducible exact tt
  ·have hi':i<B.length:=by omega
   have hp:(i:Int)<B.length:=by omega
   have hxB:B.getD i 0<18446744073709551616:=hsB.getD i
   have hset:∀z:Nat,z=(shrL k B).getD i 0→(U (shrI k B i)).set i (.d (.int .u64 z))=U (shrI k B (i+1)):=fun z hz=>by
    rw [←o_qy k B i hi' z hz,U,U,List.map_set]
   have hg:=o_qv k B i hi'
   have hl:(U (shrI k B i)).length=B.length:=by simp [U,o_qw k B i hi]
   have hq1:(U (shrI k B i))[i]?=some (.d (.int .u64 (B.getD i 0:Nat))):=by
    rw [U,List.getElem?_map,o_qx k B i i (Nat.le_refl _) hi'];rfl
   have hq2:i+1<B.length→(U (shrI k B i))[i+1]?=some (.d (.int .u64 (B.getD (i+1) 0:Nat))):=fun h=>by
    rw [U,List.getElem?_map,o_qx k B i (i+1) (by omega) h];rfl
   have hor:=o_r0 (k:=k) (x:=B.getD i 0) (y:=B.getD (i+1) 0) hmk hxB
   rw [←hg] at hor
   have hu:((B.getD i 0:Nat):Int)/2^k=((B.getD i 0/2^k:Nat):Int):=by rw [Int.natCast_ediv,Int.natCast_pow];rfl
   have hule:B.getD i 0/2^k≤B.getD i 0:=Nat.div_le_self _ _
   have hw:IntKind.u64.wrap (((B.getD (i+1) 0:Nat):Int)*2^(64-k))=((B.getD (i+1) 0*2^(64-k)%18446744073709551616:Nat):Int):=by
    rw [IntKind.wrap_u64,Int.natCast_emod,Int.natCast_mul,Int.natCast_pow];rfl
   have hwl:B.getD (i+1) 0*2^(64-k)%18446744073709551616<18446744073709551616:=Nat.mod_lt _ (by decide)
   have hlast:¬i+1<B.length→B.getD i 0/2^k=(shrL k B).getD i 0:=fun h=>by
    rw [hg,o_od h];simp
   have hls:(shrL k B).length=B.length:=o_ql k B
   generalize B.getD i 0/2^k=u at *
   generalize B.getD i 0=x at *
   generalize B.getD (i+1) 0*2^(64-k)%18446744073709551616=t at *
   generalize B.getD (i+1) 0=y at *
   have hb:=bits_or_u64_nat u t (by omega) hwl
   rw [hor] at hb
   have hz:=hset _ rfl
   generalize (shrL k B).getD i 0=z at *
   generalize U (shrI k B i)=cm at *
   have e1:IntKind.i64.wrap ((i:Int)+1)=(i:Int)+1:=w64 (by omega) (by omega)
   have e2:IntKind.i64.wrap ((64:Int)-k)=(64:Int)-k:=w64 (by omega) (by omega)
   have hn:((64:Int)-k).toNat=64-k:=by omega
   have e3:(((i:Int)+1)).toNat=i+1:=by omega
   have hkl:(k:Int)≤64:=by omega
   have hg1:∀h,cm[i]'h = .d (.int .u64 x):=fun h=>by
    have:=List.getElem?_eq_getElem h
    rw [hq1] at this
    exact (Option.some.inj this).symm
   have hg2:∀h,cm[i+1]'h = .d (.int .u64 y):=fun h=>by
    have:=List.getElem?_eq_getElem h
    rw [hq2 (by omega)] at this
    exact (Option.some.inj this).symm
   refine G1 (fs hi' hp) ?_;try with_reducible exact tt
   refine AW.cond rfl (fun h=>?_) (fun h=>?_)
   ·by_cases hl1:i+1<B.length
    ·have hlp:(i:Int)+1<B.length:=by omega
     refine G1 (fs hi' (fs hp (fs hl (fs hg1 (fs hu (fs e1 hlp)))))) ?_;try with_reducible exact tt
     refine AW.cond rfl (fun h=>?_) (fun h=>?_)
     ·have hne:¬i=i+1:=by omega
      have h64:(64-k:Int)≤64:=by omega
      refine G1 (fs hi' (fs hp (fs hl (fs hg1 (fs hg2 (fs hu (fs e1 (fs hlp (fs hl1 (fs e2 (fs hn (fs e3 (fs hne (fs hw (fs hb hz))))))))))))))) ?_;try with_reducible exact tt
      exact ⟨i+1,by omega,by omega,by simp,by simp⟩
     ·simp at h
    ·have hlp:¬(i:Int)+1<B.length:=by omega
     refine G1 (fs hi' (fs hp (fs hl (fs hg1 (fs hu (fs e1 hlp)))))) ?_;try with_reducible exact tt
     refine AW.cond rfl (fun h=>?_) (fun h=>?_)
     ·simp at h
     ·have:=hlast hl1
      subst this
      refine G1 e1 ?_;try with_reducible exact tt
      refine ⟨i+1,by omega,by omega,by simp,?_⟩
      rw [hset u rfl]
      exact Subs.refl _
   ·simp at h
end
section
open Go.RowKit
theorem o_r2 (b:Bool):Eqn Tryz.prog o_jk [.d (.bool b)] [] (.d (.int .i64 (if b then 1 else 0))) []:=by
 refine Eqn.pure o_jm Plain.ok ?_
 refine cc (c':=?z32) ?_ ?_
 case refine_1=>cbv<;>exact rfl
 cases b
 ·refine A00 ?_;try with_reducible exact tt
 ·refine A00 ?_;try with_reducible exact tt
theorem o_r3 (b:Nat) (hb:b≤64):Eqn Tryz.prog o_jh [.d (.int .i64 b)] [] (.d (.int .i64 (b*78913/262144:Nat))) []:=by
 refine Eqn.pure o_jj Plain.ok ?_
 refine cc (c':=?z33) ?_ ?_
 case refine_1=>cbv<;>exact rfl
 have e1:IntKind.i64.wrap ((b:Int)*78913)=((b*78913:Nat):Int):=by rw [w64 (by omega) (by omega)];omega
 have e2:((b*78913:Nat):Int)/262144=((b*78913/262144:Nat):Int):=by omega
 refine A10 (fs e1 e2) ?_;try with_reducible exact tt
def pow10V:List D:=[.int .u64 1,.int .u64 10,.int .u64 100,.int .u64 1000,.int .u64 10000,.int .u64 100000,.int .u64 1000000,.int .u64 10000000,.int .u64 100000000,.int .u64 1000000000,.int .u64 10000000000,.int .u64 100000000000,.int .u64 1000000000000,.int .u64 10000000000000,.int .u64 100000000000000,.int .u64 1000000000000000,.int .u64 10000000000000000,.int .u64 100000000000000000,.int .u64 1000000000000000000,.int .u64 10000000000000000000]
theorem o_r4:pow10V.length=20:=rfl
theorem o_r5:pow10V=(List.range 20).map fun k:Nat=>D.int .u64 ((10^k:Nat):Int):=by kernel_rfl
theorem o_r6:∀(k:Nat) (h:k<pow10V.length),pow10V[k]'h=D.int .u64 ((10^k:Nat):Int):=by
 rw [o_r5]
 intro k h
 simp
theorem o_r7 (n:Nat) (h0:0<n) (h1:n<18446744073709551616):Eqn Tryz.prog o_j5 [.d (.int .u64 n)] [] (.d (.int .i64 (ndig n:Nat))) []:=by
 refine Eqn.pure o_j7 Plain.ok ?_
 have hb:bitsN n≤64:=o_q8 (by omega)
 have hl:=o_qq n h1
 have hlt:=o_q7 n
 have hb0:0<bitsN n:=by
  rcases Nat.eq_zero_or_pos (bitsN n) with h | h
  ·rw [h] at hlt;simp at hlt;omega
  ·exact h
 have hge:2^(bitsN n-1)≤n:=by
  rcases Nat.lt_or_ge n (2^(bitsN n-1)) with h | h
  ·have:=o_q8 h;omega
  ·exact h
 obtain ⟨g1,g2⟩:=o_q5 n (bitsN n) hge hlt hb0 hb
 have hlo:=o_r3 (bitsN n) hb
 generalize bitsN n*78913/262144=k at *
 have hbo:=o_r2 (decide (10^k≤n))
 have hgt:=o_r6 k
 obtain ⟨t,ht⟩:∃t,t=10^k:=⟨_,rfl⟩
 rw [←ht] at hgt g2 hbo
 have hkl:k<20:=by omega
 have hki:(k:Int)<20:=by omega
 have hkl2:k<pow10V.length:=by rw [o_r4];omega
 have hge2:decide ((t:Int)≤n)=decide (t≤n):=by rw [decide_eq_decide];omega
 refine cc (c':=?z34) ?_ ?_
 case refine_1=>cbv<;>exact rfl
 rw [show [D.int .u64 1,.int .u64 10,.int .u64 100,.int .u64 1000,.int .u64 10000,.int .u64 100000,.int .u64 1000000,.int .u64 10000000,.int .u64 100000000,.int .u64 1000000000,.int .u64 10000000000,.int .u64 100000000000,.int .u64 1000000000000,.int .u64 10000000000000,.int .u64 100000000000000,.int .u64 1000000000000000,.int .u64 10000000000000000,.int .u64 100000000000000000,.int .u64 1000000000000000000,.int .u64 10000000000000000000]=pow10V from rfl]
 generalize pow10V=PV at *
 refine A00 ?_;try with_reducible exact tt
 refine CallS.pu (hl) (R0 ?_);try with_reducible exact tt
 refine CallS.pu (hlo) (R1 (fs hkl (fs hki (fs hkl2 (fs hgt hge2)))) ?_);try with_reducible exact tt
 refine CallS.pu (hbo) (R0 ?_);try with_reducible exact tt
 refine Sub1.int ?_
 rw [g2]
 by_cases h:t≤n
 ·simp only [h,if_true];omega
 ·simp only [h,if_false];omega
end
section
theorem u32N (x:Nat) (h:x<4294967296):IntKind.u32.wrap (x:Int)=x:=by rw [IntKind.wrap_u32];omega
theorem o_r8 (u k:Nat) (h0:0<k) (h:k≤4294967296):IntKind.u32.wrap ((u:Int).tmod k)=((u%k:Nat):Int):=by
 rw [Int.tmod_eq_emod_of_nonneg (by omega),←Int.natCast_emod]
 exact u32N _ (Nat.lt_of_lt_of_le (Nat.mod_lt _ h0) h)
theorem o_r9 (x k:Nat) (h:x<4294967296):IntKind.u32.wrap ((x:Int)/k)=((x/k:Nat):Int):=by
 rw [←Int.natCast_ediv]
 exact u32N _ (Nat.lt_of_le_of_lt (Nat.div_le_self _ _) h)
theorem o_ra (x k:Nat) (h:x<18446744073709551616):IntKind.u64.wrap ((x:Int)/k)=((x/k:Nat):Int):=by
 rw [←Int.natCast_ediv]
 have:=Nat.div_le_self x k
 generalize x/k=q at *
 rw [IntKind.wrap_u64];omega
theorem modN (x k:Nat):(x:Int).tmod k=((x%k:Nat):Int):=by rw [Int.tmod_eq_emod_of_nonneg (by omega),←Int.natCast_emod]
structure D4 (x a b:Nat):Prop where
 da:IntKind.u32.wrap ((x:Int)/100)=a
 mb:(x:Int).tmod 100=b
 la:a<100
 lb:b<100
 dig:∀u,padN 4 (u*10000+x)=[48+a/10,48+a%10,48+b/10,48+b%10]
theorem d4 (x:Nat) (hx:x<10000):∃a b,D4 x a b:=by
 refine ⟨x/100,x%100,o_r9 x 100 (by omega),modN x 100,by omega,by omega,fun u=>?_⟩
 rw [o_pp]
 congr 1
 ·omega
 congr 1
 ·omega
 congr 1
 ·omega
 congr 1
 omega
structure D8 (u x5 x6 x7:Nat):Prop where
 m5:IntKind.u32.wrap ((u:Int).tmod 100000000)=x5
 d6:IntKind.u32.wrap ((x5:Int)/10000)=x6
 m7:(x5:Int).tmod 10000=x7
 l6:x6<10000
 l7:x7<10000
 dig:padN 8 u=padN 4 (u/100000000*10000+x6)++padN 4 (u/10000*10000+x7)
theorem d8 (u:Nat):∃x5 x6 x7,D8 u x5 x6 x7:=by
 refine ⟨u%100000000,u%100000000/10000,u%100000000%10000,o_r8 u 100000000 (by omega) (by omega),o_r9 _ 10000 (by omega),modN _ 10000,by omega,by omega,?_⟩
 rw [show (8:Nat)=4+4 from rfl,o_po,show u/100000000*10000+u%100000000/10000=u/10000 by omega,show u/10000*10000+u%100000000%10000=u by omega]
structure Lk (l:ByteArray) (x y z c e:Nat):Prop where
 wy:IntKind.u32.wrap ((x:Int)*2)=y
 wz:IntKind.u32.wrap ((y:Int)+1)=z
 gy:∀h,(l.data[y]'h).toNat=c
 gz:∀h,(l.data[z]'h).toNat=e
 ny:y<l.size
 nz:z<l.size
 hc:c=48+x/10
 he:e=48+x%10
theorem lk (l:ByteArray) (hl:l.size=200) (h:∀x,x<100→(l.data.toList.getD (x*2) 0).toNat=48+x/10∧(l.data.toList.getD (x*2+1) 0).toNat=48+x%10) (x:Nat) (hx:x<100):∃y z c e,Lk l x y z c e :=
 ⟨x*2,x*2+1,48+x/10,48+x%10,by rw [IntKind.wrap_u32];omega,by rw [IntKind.wrap_u32];omega,fun k=>by have:=(h x hx).1;rw [List.getD_eq_getElem?_getD,List.getElem?_eq_getElem (by simpa using k)] at this;simpa using this,fun k=>by have:=(h x hx).2;rw [List.getD_eq_getElem?_getD,List.getElem?_eq_getElem (by simpa using k)] at this;simpa using this,by omega,by omega,rfl,rfl⟩
theorem w64s (p k m:Nat) (h:p=m+k) (hp:p≤1000):IntKind.i64.wrap ((p:Int)-k)=m:=by rw [IntKind.wrap_i64];omega
end
section
open Go.RowKit
def yV (ws:List Nat):List V:=ws.map fun x:Nat=>V.d (.int .u8 x)
theorem o_rb (ws:List Nat) (j v:Nat):(yV ws).set j (.d (.int .u8 v))=yV (ws.set j v):=by simp [yV,List.map_set]
@[simp] theorem o_rc (ws:List Nat):(yV ws).length=ws.length:=by simp [yV]
@[simp] theorem o_rd (n:Nat) (ws:List Nat):V.lowl n (yV ws)=true:=by induction ws<;>simp_all [yV]
@[simp] theorem o_re (θ:Nat→Nat) (ws:List Nat):V.rens θ (yV ws)=yV ws:=by induction ws<;>simp_all [yV]
def lit2G (i:Nat):Nat:=(lit2.data.toList.getD i 0).toNat
theorem o_rf:(List.range 100).all (fun x=>lit2G (x*2)==48+x/10&&lit2G (x*2+1)==48+x%10)=true:=by kernel_rfl
theorem o_rg (x:Nat) (h:x<100):lit2G (x*2)=48+x/10∧lit2G (x*2+1)=48+x%10:=by
 have:=List.all_eq_true.1 o_rf x (by simpa using h)
 simpa using this
theorem o_rh (A R:List Nat) (m x:Nat):(yV (A++(List.replicate (m+1) 0++R))).set (A.length+m) (.d (.int .u8 x))=yV (A++(List.replicate m 0++x::R)):=by rw [o_rb,o_q6]

theorem fillF {A:List Nat} {p m:Nat} (h:p=m+1):∀(R:List Nat) (x:Nat),(yV (A++(List.replicate p 0++R))).set (A.length+m) (.d (.int .u8 x))=yV (A++(List.replicate m 0++x::R)):=by
 subst h;exact fun R x=>o_rh A R m x
def qN (n j:Nat):Nat:=n/10^(8*j)
def rN (nd j:Nat):Nat:=nd-8*j
set_option maxHeartbeats 8000000 in
theorem o_ri (n nd:Nat) (hn:n<18446744073709551616) (hnd:nd≤20) (hlt:n<10^nd) (A B:List Nat) (hA:A.length≤1000) :
  Eqn Tryz.prog o_j8 [.row 0 A.length nd,.d (.int .u64 n)] [⟨262,yV (A++(List.replicate nd 0++B))⟩] (.tup []) [⟨262,yV (A++(padN nd n++B))⟩]:=by
 refine Eqn.obj1 o_ja (by exact Plain.ok) ⟨by simp,by simp⟩ ?_
 have e2:=o_ph
 refine cc (c':=?z35) ?_ ?_
 case refine_1=>cbv<;>exact rfl
 rw [show (⟨#[48,48,48,49,48,50,48,51,48,52,48,53,48,54,48,55,48,56,48,57,49,48,49,49,49,50,49,51,49,52,49,53,49,54,49,55,49,56,49,57,50,48,50,49,50,50,50,51,50,52,50,53,50,54,50,55,50,56,50,57,51,48,51,49,51,50,51,51,51,52,51,53,51,54,51,55,51,56,51,57,52,48,52,49,52,50,52,51,52,52,52,53,52,54,52,55,52,56,52,57,53,48,53,49,53,50,53,51,53,52,53,53,53,54,53,55,53,56,53,57,54,48,54,49,54,50,54,51,54,52,54,53,54,54,54,55,54,56,54,57,55,48,55,49,55,50,55,51,55,52,55,53,55,54,55,55,55,56,55,57,56,48,56,49,56,50,56,51,56,52,56,53,56,54,56,55,56,56,56,57,57,48,57,49,57,50,57,51,57,52,57,53,57,54,57,55,57,56,57,57]⟩:ByteArray)=lit2 from rfl]
 have hl2g:=o_rg
 unfold lit2G at hl2g
 generalize hl2:lit2=l2 at *
 refine A00 ?_;try with_reducible exact tt
 refine AW.loopT (α:=Nat) 1 (fun j=>[(4,.d (.int .i64 (rN nd j:Nat))),(1,.d (.int .u64 (qN n j:Nat)))]) (fun j=>[(0,⟨262,yV (A++(List.replicate (rN nd j) 0++(padN (8*j) n++B)))⟩)]) (fun j=>8*j≤nd) (fun j=>nd-8*j) 0 ?_ ?_ (by simp) ?_ ?_ ?_
 ·simp
 ·simp
 ·simp [rN,qN]
 ·simp [padN,rN,qN]
 intro j hj
 simp
 have hr0:rN nd j=nd-8*j:=rfl
 have hr1:rN nd (j+1)=nd-8*(j+1):=rfl
 have hle:qN n j≤n:=Nat.div_le_self _ _
 have hdd:qN n (j+1)=qN n j/100000000:=by rw [qN,qN,Nat.div_div_eq_div_mul,Nat.mul_succ,Nat.pow_add]
 have hpad:∀w,padN (w+8*j) n=padN w (qN n j)++padN (8*j) n:=fun w=>by rw [o_po];rfl
 by_cases h8:8≤rN nd j
 ·have h8':(8:Int)≤(rN nd j:Nat):=by omega
  replace hpad:=hpad 8
  rw [show 8+8*j=8*(j+1) by omega] at hpad
  generalize padN (8*j) n=X at *
  generalize qN n j=u at *
  generalize rN nd j=p at *
  have hu32:∀x:Nat,x<4294967296→IntKind.u32.wrap (x:Int)=x:=fun x hx=>by rw [IntKind.wrap_u32];omega
  have hp:p≤1000:=by omega
  have hs1:8*(j+1)≤nd:=by omega
  have hs2:nd-8*(j+1)<nd-8*j:=by omega
  have du:IntKind.u64.wrap ((u:Int)/100000000)=(qN n (j+1):Nat):=by rw [hdd];exact o_ra u 100000000 (by omega)
  generalize hu1:qN n (j+1)=u1 at du hdd ⊢
  have hpn:p≤nd:=by omega
  have hrp:rN nd (j+1)+8=p:=by omega
  clear hr0 hr1 hle
  clear hn hlt
  obtain ⟨p1,hp1⟩:∃m,p=m+1:=⟨p-1,by omega⟩
  have w1:IntKind.i64.wrap ((p:Int)-1)=p1:=w64s p 1 p1 hp1 hp
  obtain ⟨p2,hp2⟩:∃m,p=m+2:=⟨p-2,by omega⟩
  have w2:IntKind.i64.wrap ((p:Int)-2)=p2:=w64s p 2 p2 hp2 hp
  obtain ⟨p3,hp3⟩:∃m,p=m+3:=⟨p-3,by omega⟩
  have w3:IntKind.i64.wrap ((p:Int)-3)=p3:=w64s p 3 p3 hp3 hp
  obtain ⟨p4,hp4⟩:∃m,p=m+4:=⟨p-4,by omega⟩
  have w4:IntKind.i64.wrap ((p:Int)-4)=p4:=w64s p 4 p4 hp4 hp
  obtain ⟨p5,hp5⟩:∃m,p=m+5:=⟨p-5,by omega⟩
  have w5:IntKind.i64.wrap ((p:Int)-5)=p5:=w64s p 5 p5 hp5 hp
  obtain ⟨p6,hp6⟩:∃m,p=m+6:=⟨p-6,by omega⟩
  have w6:IntKind.i64.wrap ((p:Int)-6)=p6:=w64s p 6 p6 hp6 hp
  obtain ⟨p7,hp7⟩:∃m,p=m+7:=⟨p-7,by omega⟩
  have w7:IntKind.i64.wrap ((p:Int)-7)=p7:=w64s p 7 p7 hp7 hp
  obtain ⟨p8,hp8⟩:∃m,p=m+8:=⟨p-8,by omega⟩
  have w8:IntKind.i64.wrap ((p:Int)-8)=p8:=w64s p 8 p8 hp8 hp
  have f1:=fillF (A:=A) (p:=p) (m:=p1) (by omega)
  have f2:=fillF (A:=A) (p:=p1) (m:=p2) (by omega)
  have f3:=fillF (A:=A) (p:=p2) (m:=p3) (by omega)
  have f4:=fillF (A:=A) (p:=p3) (m:=p4) (by omega)
  have f5:=fillF (A:=A) (p:=p4) (m:=p5) (by omega)
  have f6:=fillF (A:=A) (p:=p5) (m:=p6) (by omega)
  have f7:=fillF (A:=A) (p:=p6) (m:=p7) (by omega)
  have f8:=fillF (A:=A) (p:=p7) (m:=p8) (by omega)
  obtain ⟨x5,x6,x7,⟨m5,d6,m7,l6,l7,dig8⟩⟩:=d8 u
  obtain ⟨a7,b7,⟨da7,mb7,la7,lb7,dig7⟩⟩:=d4 x7 l7
  obtain ⟨a6,b6,⟨da6,mb6,la6,lb6,dig6⟩⟩:=d4 x6 l6
  have hlk:=lk l2 e2 hl2g
  obtain ⟨yA,zA,cA,eA,⟨wyA,wzA,gyA,gzA,nyA,nzA,hcA,heA⟩⟩:=hlk b7 lb7
  obtain ⟨yB,zB,cB,eB,⟨wyB,wzB,gyB,gzB,nyB,nzB,hcB,heB⟩⟩:=hlk a7 la7
  obtain ⟨yC,zC,cC,eC,⟨wyC,wzC,gyC,gzC,nyC,nzC,hcC,heC⟩⟩:=hlk b6 lb6
  obtain ⟨yD,zD,cD,eD,⟨wyD,wzD,gyD,gzD,nyD,nzD,hcD,heD⟩⟩:=hlk a6 la6
  rw [dig8,dig6,dig7] at hpad
  rw [←hcA,←heA,←hcB,←heB,←hcC,←heC,←hcD,←heD] at hpad
  clear hcA heA hcB heB hcC heC hcD heD dig8 dig6 dig7 hlk
  repeat (first | refine AW.seq ?_ | refine AW.block ?_)
  refine AW.reg mix ?_
  (simp -implicitDefEqProofs [h8,h8'];try simp (disch:=omega) only [w64,wu64])
  try refine need.of (by first | omega | kernel_rfl) ?_
  refine AW.cond rfl (fun _=>?_) (fun h=>?_)
  rotate_left
  ·simp at h
  refine AW.skip ?_
  simp
  repeat (first | refine AW.seq ?_ | refine AW.block ?_)
  refine AW.reg mix ?_
  (simp -implicitDefEqProofs [m5];try simp (disch:=omega) only [w64,wu64])
  try refine need.of (by first | omega | kernel_rfl) ?_
  repeat (first | refine AW.seq ?_ | refine AW.block ?_)
  refine AW.reg mix ?_
  (simp -implicitDefEqProofs [du];try simp (disch:=omega) only [w64,wu64])
  try refine need.of (by first | omega | kernel_rfl) ?_
  repeat (first | refine AW.seq ?_ | refine AW.block ?_)
  refine AW.reg mix ?_
  (simp -implicitDefEqProofs [d6,m7];try simp (disch:=omega) only [w64,wu64])
  try refine need.of (by first | omega | kernel_rfl) ?_
  repeat (first | refine AW.seq ?_ | refine AW.block ?_)
  refine AW.reg mix ?_
  (simp -implicitDefEqProofs [da7,mb7,wyA,wyB];try simp (disch:=omega) only [w64,wu64])
  try refine need.of (by first | omega | kernel_rfl) ?_
  repeat (first | refine AW.seq ?_ | refine AW.block ?_)
  refine AW.reg mix ?_
  (simp -implicitDefEqProofs [da6,mb6,wyC,wyD];try simp (disch:=omega) only [w64,wu64])
  try refine need.of (by first | omega | kernel_rfl) ?_
  refine G1 (fs w1 (fs w2 (fs w3 (fs w4 (fs w5 (fs w6 (fs w7 (fs w8 (fs wzA (fs wzB (fs wzC (fs wzD (fs gyA (fs gyB (fs gyC (fs gyD (fs gzA (fs gzB (fs gzC (fs gzD (fs nyA (fs nyB (fs nyC (fs nyD (fs nzA (fs nzB (fs nzC (fs nzD (fs f1 (fs f2 (fs f3 (fs f4 (fs f5 (fs f6 (fs f7 f8))))))))))))))))))))))))))))))))))) ?_;try with_reducible exact tt
  refine ⟨j+1,hs1,hs2,⟨Sub1.int (by rw [hu1]),Sub1.int (by omega)⟩,Subs.of ?_⟩
  rw [hpad,show rN nd (j+1)=p8 by omega]
  simp
 ·have h8':¬(8:Int)≤(rN nd j:Nat):=by omega
  have hul:qN n j<10^rN nd j:=by
   rw [qN,hr0,Nat.div_lt_iff_lt_mul (Nat.pow_pos (by decide)),←Nat.pow_add,show nd-8*j+8*j=nd by omega]
   exact hlt
  replace hpad:=hpad (rN nd j)
  rw [show rN nd j+8*j=nd by omega] at hpad
  have hfin:padN nd n++B=padN (rN nd j) (qN n j)++(padN (8*j) n++B):=by rw [hpad,List.append_assoc]
  rw [hfin]
  have hp:rN nd j<8:=by omega
  have hpn:rN nd j≤nd:=by omega
  generalize padN (8*j) n++B=X at *
  generalize qN n j=u at *
  generalize rN nd j=p at *
  have hu7:u<10000000:=Nat.lt_of_lt_of_le hul (Nat.pow_le_pow_right (by decide) (show p≤7 by omega))
  clear hfin hpad hdd hr0 hr1 hle hn hlt hj
  have hlk:=lk l2 e2 hl2g
  have du:IntKind.u32.wrap (u:Int)=u:=u32N u (by omega)
  refine A10 (fs h8 (fs h8' du)) ?_;try with_reducible exact tt
  by_cases h4:4≤p
  ·have h4':(4:Int)≤p:=by omega
   obtain ⟨p4,hp4⟩:∃m,p=m+4:=⟨p-4,by omega⟩
   obtain ⟨p1,hp1⟩:∃m,p=m+1:=⟨p-1,by omega⟩
   obtain ⟨p2,hp2⟩:∃m,p=m+2:=⟨p-2,by omega⟩
   obtain ⟨p3,hp3⟩:∃m,p=m+3:=⟨p-3,by omega⟩
   have w1:IntKind.i64.wrap ((p:Int)-1)=p1:=w64s p 1 p1 hp1 (by omega)
   have w2:IntKind.i64.wrap ((p:Int)-2)=p2:=w64s p 2 p2 hp2 (by omega)
   have w3:IntKind.i64.wrap ((p:Int)-3)=p3:=w64s p 3 p3 hp3 (by omega)
   have w4:IntKind.i64.wrap ((p:Int)-4)=p4:=w64s p 4 p4 hp4 (by omega)
   have f1:=fillF (A:=A) (p:=p) (m:=p1) (by omega)
   have f2:=fillF (A:=A) (p:=p1) (m:=p2) (by omega)
   have f3:=fillF (A:=A) (p:=p2) (m:=p3) (by omega)
   have f4:=fillF (A:=A) (p:=p3) (m:=p4) (by omega)
   have hbU4:u/10000<10^p4:=by rw [Nat.div_lt_iff_lt_mul (by decide),show (10000:Nat)=10^4 from rfl,←Nat.pow_add,←hp4];exact hul
   have hpd4:padN p u=padN p4 (u/10000)++padN 4 (u/10000*10000+u%10000):=by rw [show u/10000*10000+u%10000=u by omega,hp4,o_po]
   obtain ⟨x4,hx4⟩:∃b,b=u%10000:=⟨_,rfl⟩
   have m4:(u:Int).tmod 10000=x4:=by rw [hx4];exact modN u 10000
   have l4:x4<10000:=by rw [hx4];exact Nat.mod_lt _ (by decide)
   rw [←hx4] at hpd4
   obtain ⟨a7,b7,⟨da7,mb7,la7,lb7,dig7⟩⟩:=d4 x4 l4
   obtain ⟨yA,zA,cA,eA,⟨wyA,wzA,gyA,gzA,nyA,nzA,hcA,heA⟩⟩:=hlk b7 lb7
   obtain ⟨yB,zB,cB,eB,⟨wyB,wzB,gyB,gzB,nyB,nzB,hcB,heB⟩⟩:=hlk a7 la7
   rw [dig7,←hcA,←heA,←hcB,←heB] at hpd4
   have dU4:IntKind.u32.wrap ((u:Int)/10000)=(u/10000:Nat):=o_r9 u 10000 (by omega)
   have hU74:u/10000<10000000:=Nat.lt_of_le_of_lt (Nat.div_le_self _ _) hu7
   rw [hpd4]
   clear hx4 hcA heA hcB heB hpd4 dig7
   generalize u/10000=u4 at *
   clear hul hu7 du
   refine A10 (fs h4 (fs h4' (fs m4 (fs dU4 (fs da7 (fs mb7 (fs wyA (fs wyB (fs w1 (fs w2 (fs w3 (fs w4 (fs wzA (fs wzB (fs gyA (fs gyB (fs gzA (fs gzB (fs nyA (fs nyB (fs nzA (fs nzB (fs f1 (fs f2 (fs f3 f4))))))))))))))))))))))))) ?_;try with_reducible exact tt
   by_cases h2:2≤p4
   ·have h2':(2:Int)≤p4:=by omega
    obtain ⟨q1,hq1⟩:∃m,p4=m+1:=⟨p4-1,by omega⟩
    have v1:IntKind.i64.wrap ((p4:Int)-1)=q1:=w64s p4 1 q1 hq1 (by omega)
    obtain ⟨q2,hq2⟩:∃m,p4=m+2:=⟨p4-2,by omega⟩
    have v2:IntKind.i64.wrap ((p4:Int)-2)=q2:=w64s p4 2 q2 hq2 (by omega)
    have t1:=fillF (A:=A) (p:=p4) (m:=q1) (by omega)
    have t2:=fillF (A:=A) (p:=q1) (m:=q2) (by omega)
    have hbW2:u4/100<10^q2:=by rw [Nat.div_lt_iff_lt_mul (by decide),show (100:Nat)=10^2 from rfl,←Nat.pow_add,←hq2];exact hbU4
    have hpd2:padN p4 u4=padN q2 (u4/100)++padN 2 u4:=by rw [hq2,o_po]
    rw [o_pq] at hpd2
    obtain ⟨b2,hb2⟩:∃b,b=u4%100:=⟨_,rfl⟩
    have mb2:(u4:Int).tmod 100=b2:=by rw [hb2];exact modN u4 100
    have lb2:b2<100:=by rw [hb2];exact Nat.mod_lt _ (by decide)
    obtain ⟨yE,zE,cE,eE,⟨wyE,wzE,gyE,gzE,nyE,nzE,hcE,heE⟩⟩:=hlk b2 lb2
    rw [show u4/10%10=b2/10 by omega,show u4%10=b2%10 by omega,←hcE,←heE] at hpd2
    have dU2:IntKind.u32.wrap ((u4:Int)/100)=(u4/100:Nat):=o_r9 u4 100 (by omega)
    have hU72:u4/100<10000000:=Nat.lt_of_le_of_lt (Nat.div_le_self _ _) hU74
    rw [hpd2]
    clear hb2 hcE heE hpd2
    generalize u4/100=W2 at *
    clear hbU4 hU74
    refine A10 (fs h2 (fs h2' (fs mb2 (fs wyE (fs dU2 (fs v1 (fs v2 (fs wzE (fs gyE (fs gzE (fs nyE (fs nzE (fs t1 t2))))))))))))) ?_;try with_reducible exact tt
    by_cases h1:0<q2
    ·have h1':(0:Int)<q2:=by omega
     have hP1:q2=0+1:=by omega
     have hU:W2<10:=by rw [hP1] at hbW2;simpa using hbW2
     obtain ⟨c,hc⟩:∃c,c=48+W2:=⟨_,rfl⟩
     have o1:IntKind.u32.wrap (48+(W2:Int))=c:=by rw [IntKind.wrap_u32];omega
     have o2:IntKind.u8.wrap (c:Int)=c:=by rw [IntKind.wrap_u8];omega
     have f:=fillF (A:=A) (p:=q2) (m:=0) hP1
     rw [Nat.add_zero] at f
     have hnd0:(0:Int)<nd:=by omega
     have hnd1:0<nd:=by omega
     refine A10 (fs h1 (fs h1' (fs o1 (fs o2 (fs f (fs hnd0 hnd1)))))) ?_;try with_reducible exact tt
     refine Subs.of ?_
     rw [hP1,hc]
     simp [padN,Nat.mod_eq_of_lt hU]
    ·have h1':¬(0:Int)<q2:=by omega
     have hP0:q2=0:=by omega
     subst hP0
     refine A10 (fs h1 h1') ?_;try with_reducible exact tt
     exact Subs.of (by simp [padN])
   ·have h2':¬(2:Int)≤p4:=by omega
    refine A10 (fs h2 h2') ?_;try with_reducible exact tt
    by_cases h1:0<p4
    ·have h1':(0:Int)<p4:=by omega
     have hP1:p4=0+1:=by omega
     have hU:u4<10:=by rw [hP1] at hbU4;simpa using hbU4
     obtain ⟨c,hc⟩:∃c,c=48+u4:=⟨_,rfl⟩
     have o1:IntKind.u32.wrap (48+(u4:Int))=c:=by rw [IntKind.wrap_u32];omega
     have o2:IntKind.u8.wrap (c:Int)=c:=by rw [IntKind.wrap_u8];omega
     have f:=fillF (A:=A) (p:=p4) (m:=0) hP1
     rw [Nat.add_zero] at f
     have hnd0:(0:Int)<nd:=by omega
     have hnd1:0<nd:=by omega
     refine A10 (fs h1 (fs h1' (fs o1 (fs o2 (fs f (fs hnd0 hnd1)))))) ?_;try with_reducible exact tt
     refine Subs.of ?_
     rw [hP1,hc]
     simp [padN,Nat.mod_eq_of_lt hU]
    ·have h1':¬(0:Int)<p4:=by omega
     have hP0:p4=0:=by omega
     subst hP0
     refine A10 (fs h1 h1') ?_;try with_reducible exact tt
     exact Subs.of (by simp [padN])
  ·have h4':¬(4:Int)≤p:=by omega
   refine A10 (fs h4 h4') ?_;try with_reducible exact tt
   by_cases h2:2≤p
   ·have h2':(2:Int)≤p:=by omega
    obtain ⟨q1,hq1⟩:∃m,p=m+1:=⟨p-1,by omega⟩
    have v1:IntKind.i64.wrap ((p:Int)-1)=q1:=w64s p 1 q1 hq1 (by omega)
    obtain ⟨q2,hq2⟩:∃m,p=m+2:=⟨p-2,by omega⟩
    have v2:IntKind.i64.wrap ((p:Int)-2)=q2:=w64s p 2 q2 hq2 (by omega)
    have t1:=fillF (A:=A) (p:=p) (m:=q1) (by omega)
    have t2:=fillF (A:=A) (p:=q1) (m:=q2) (by omega)
    have hbW2:u/100<10^q2:=by rw [Nat.div_lt_iff_lt_mul (by decide),show (100:Nat)=10^2 from rfl,←Nat.pow_add,←hq2];exact hul
    have hpd2:padN p u=padN q2 (u/100)++padN 2 u:=by rw [hq2,o_po]
    rw [o_pq] at hpd2
    obtain ⟨b2,hb2⟩:∃b,b=u%100:=⟨_,rfl⟩
    have mb2:(u:Int).tmod 100=b2:=by rw [hb2];exact modN u 100
    have lb2:b2<100:=by rw [hb2];exact Nat.mod_lt _ (by decide)
    obtain ⟨yE,zE,cE,eE,⟨wyE,wzE,gyE,gzE,nyE,nzE,hcE,heE⟩⟩:=hlk b2 lb2
    rw [show u/10%10=b2/10 by omega,show u%10=b2%10 by omega,←hcE,←heE] at hpd2
    have dU2:IntKind.u32.wrap ((u:Int)/100)=(u/100:Nat):=o_r9 u 100 (by omega)
    have hU72:u/100<10000000:=Nat.lt_of_le_of_lt (Nat.div_le_self _ _) hu7
    rw [hpd2]
    clear hb2 hcE heE hpd2
    generalize u/100=W2 at *
    clear hul hu7
    refine A10 (fs h2 (fs h2' (fs mb2 (fs wyE (fs dU2 (fs v1 (fs v2 (fs wzE (fs gyE (fs gzE (fs nyE (fs nzE (fs t1 t2))))))))))))) ?_;try with_reducible exact tt
    by_cases h1:0<q2
    ·have h1':(0:Int)<q2:=by omega
     have hP1:q2=0+1:=by omega
     have hU:W2<10:=by rw [hP1] at hbW2;simpa using hbW2
     obtain ⟨c,hc⟩:∃c,c=48+W2:=⟨_,rfl⟩
     have o1:IntKind.u32.wrap (48+(W2:Int))=c:=by rw [IntKind.wrap_u32];omega
     have o2:IntKind.u8.wrap (c:Int)=c:=by rw [IntKind.wrap_u8];omega
     have f:=fillF (A:=A) (p:=q2) (m:=0) hP1
     rw [Nat.add_zero] at f
     have hnd0:(0:Int)<nd:=by omega
     have hnd1:0<nd:=by omega
     refine A10 (fs h1 (fs h1' (fs o1 (fs o2 (fs f (fs hnd0 hnd1)))))) ?_;try with_reducible exact tt
     refine Subs.of ?_
     rw [hP1,hc]
     simp [padN,Nat.mod_eq_of_lt hU]
    ·have h1':¬(0:Int)<q2:=by omega
     have hP0:q2=0:=by omega
     subst hP0
     refine A10 (fs h1 h1') ?_;try with_reducible exact tt
     exact Subs.of (by simp [padN])
   ·have h2':¬(2:Int)≤p:=by omega
    refine A10 (fs h2 h2') ?_;try with_reducible exact tt
    by_cases h1:0<p
    ·have h1':(0:Int)<p:=by omega
     have hP1:p=0+1:=by omega
     have hU:u<10:=by rw [hP1] at hul;simpa using hul
     obtain ⟨c,hc⟩:∃c,c=48+u:=⟨_,rfl⟩
     have o1:IntKind.u32.wrap (48+(u:Int))=c:=by rw [IntKind.wrap_u32];omega
     have o2:IntKind.u8.wrap (c:Int)=c:=by rw [IntKind.wrap_u8];omega
     have f:=fillF (A:=A) (p:=p) (m:=0) hP1
     rw [Nat.add_zero] at f
     have hnd0:(0:Int)<nd:=by omega
     have hnd1:0<nd:=by omega
     refine A10 (fs h1 (fs h1' (fs o1 (fs o2 (fs f (fs hnd0 hnd1)))))) ?_;try with_reducible exact tt
     refine Subs.of ?_
     rw [hP1,hc]
     simp [padN,Nat.mod_eq_of_lt hU]
    ·have h1':¬(0:Int)<p:=by omega
     have hP0:p=0:=by omega
     subst hP0
     refine A10 (fs h1 h1') ?_;try with_reducible exact tt
     exact Subs.of (by simp [padN])
end
section
open Go.RowKit
@[simp] theorem o_rj:∀l:List Nat,intsV (yV l)=some (l.map fun n:Nat=>(n:Int))
 | []=>rfl
 | x::l=>by
  have:=o_rj l
  unfold yV at this ⊢
  rw [List.map_cons,intsV,this]
  rfl
theorem o_rk (l:List Nat):strOf (l.map fun n:Nat=>(n:Int))=bst l:=by
 unfold strOf bst
 rw [List.map_map]
 congr 1
theorem o_rl:((List.range 10).all fun n=>(lit1.extract n (n+1)).data.toList==[UInt8.ofNat (48+n)])=true∧((List.range 100).all fun n=>n<10 || (lit2.extract (n*2) (n*2+2)).data.toList==[UInt8.ofNat (48+n/10),UInt8.ofNat (48+n%10)])=true:=⟨by kernel_rfl,by kernel_rfl⟩
theorem o_rm (n:Nat) (h:n<100):smallS n=txt n:=by
 have key:∀(s:ByteArray) (l:List UInt8),s.data.toList=l→s=⟨l.toArray⟩:=by
  rintro ⟨a⟩ l rfl
  rfl
 unfold smallS
 split
 ·rename_i h10
  have:=List.all_eq_true.1 o_rl.1 n (by simpa using h10)
  simp only [beq_iff_eq] at this
  rw [key _ _ this,txt,decN,ndig,if_pos h10]
  simp [padN,bst,Nat.mod_eq_of_lt h10]
 ·rename_i h10
  have:=List.all_eq_true.1 o_rl.2 n (by simpa using h)
  simp only [h10,decide_false,Bool.false_or,beq_iff_eq] at this
  have h1:n/10<10:=by omega
  rw [key _ _ this,txt,decN,ndig,if_neg h10,ndig,if_pos h1]
  simp [padN,bst,Nat.mod_eq_of_lt h1]
theorem o_rn (n:Nat) (hn:n<18446744073709551616):Eqn Tryz.prog o_i2 [.d (.int .u64 n),.d (.int .i64 10)] [] (.d (.str (txt n))) []:=by
 by_cases h100:n<100
 ·rw [←o_rm n h100];exact o_pm n h100
 refine Eqn.pure o_i4 (o_5e _) ?_
 refine cc (c':=?z36) ?_ ?_
 case refine_1=>cbv<;>exact rfl
 have h1:¬(n:Int)<100:=by omega
 have hnd:=o_r7 n (by omega) hn
 have hlt:=o_pw n
 have hle:=o_px n 20 (Nat.lt_trans hn (by decide)) (by decide)
 have htx:txt n=bst (padN (ndig n) n):=rfl
 rw [htx]
 generalize ndig n=nd at *
 have hf:=o_ri n nd hn hle hlt [] (List.replicate (24-nd) 0) (by simp)
 have hz:yV ([]++(List.replicate nd 0++List.replicate (24-nd) 0))=List.replicate 24 (V.d (.int .u8 0)):=by
  rw [List.nil_append,List.replicate_append_replicate,show nd+(24-nd)=24 by omega];rfl
 rw [hz] at hf
 rw [List.nil_append,List.length_nil] at hf
 have htk:(yV (padN nd n++List.replicate (24-nd) 0)).take nd=yV (padN nd n):=by
  unfold yV
  rw [List.map_append,List.take_append_of_le_length (by rw [List.length_map,o_pn];exact Nat.le_refl _),List.take_of_length_le (by rw [List.length_map,o_pn];exact Nat.le_refl _)]
 have hln:(padN nd n).length=nd:=o_pn _ _
 have hst:=o_rk (padN nd n)
 have hni:(nd:Int)≤24:=by omega
 refine A10 (fs h100 h1) ?_;try with_reducible exact tt
 refine CallS.pu (hnd) (R1 hni ?_);try with_reducible exact tt
 refine CallS.g [0] (hf) (R1 (fs hni (fs htk (fs hln hst))) ?_);try with_reducible exact tt
 done
end
section
open Go.RowKit
theorem and32 (x:Nat) (h:x<18446744073709551616):bits BinOp.and IntKind.u64 (x:Int) 4294967295=((x%4294967296:Nat):Int):=by
 have:=bits_and_u64_nat x 4294967295 h (by omega)
 rw [show ((4294967295:Nat):Int)=4294967295 by rfl] at this
 rw [this,show (4294967295:Nat)=2^32-1 by rfl,Nat.and_two_pow_sub_one_eq_mod]

theorem o_ro (x y:Nat) (hx:x<18446744073709551616) (hy:y<18446744073709551616) :
  let x0:=x%4294967296;let x1:=x/4294967296;let y0:=y%4294967296;let y1:=y/4294967296
  let w0:=x0*y0;let t:=x1*y0+w0/4294967296;let w1:=t%4294967296+x0*y1
  w0<18446744073709551616∧x1*y0<18446744073709551616∧t<18446744073709551616∧x0*y1<18446744073709551616∧w1<18446744073709551616∧x1*y1<18446744073709551616 ∧
  x1*y1+t/4294967296<18446744073709551616∧x1*y1+t/4294967296+w1/4294967296<18446744073709551616 ∧
  x*y=(x1*y1+t/4294967296+w1/4294967296)*18446744073709551616+x*y%18446744073709551616:=by
 intro x0 x1 y0 y1 w0 t w1
 have hx0:x0<4294967296:=Nat.mod_lt _ (by decide)
 have hy0:y0<4294967296:=Nat.mod_lt _ (by decide)
 have hx1:x1<4294967296:=by simp only [x1];omega
 have hy1:y1<4294967296:=by simp only [y1];omega
 have ex:x=x1*4294967296+x0:=by simp only [x1,x0];omega
 have ey:y=y1*4294967296+y0:=by simp only [y1,y0];omega
 have b:∀{a c:Nat},a<4294967296→c<4294967296→a*c≤18446744065119617025:=fun {a c} ha hc=>by
  have:=Nat.mul_le_mul (show a≤4294967295 by omega) (show c≤4294967295 by omega)
  omega
 have b00:=b hx0 hy0
 have b10:=b hx1 hy0
 have b01:=b hx0 hy1
 have b11:=b hx1 hy1
 have exy:x*y=x1*y1*18446744073709551616+(x1*y0+x0*y1)*4294967296+x0*y0:=by
  rw [ex,ey]
  simp only [Nat.add_mul,Nat.mul_add]
  have e1:x1*4294967296*(y1*4294967296)=x1*y1*18446744073709551616:=by
   rw [Nat.mul_mul_mul_comm]
  have e2:x1*4294967296*y0=x1*y0*4294967296:=by rw [Nat.mul_right_comm]
  have e3:x0*(y1*4294967296)=x0*y1*4294967296:=by rw [Nat.mul_assoc]
  rw [e1,e2,e3];omega
 have hw0:w0=x0*y0:=rfl
 generalize x*y=xy at exy ⊢
 generalize x0*y0=a00 at *
 have ht:t=x1*y0+w0/4294967296:=rfl
 generalize x1*y0=a10 at *
 have hw1:w1=t%4294967296+x0*y1:=rfl
 generalize x0*y1=a01 at *
 generalize x1*y1=a11 at *
 clear_value w0 t w1
 omega

theorem o_rp (x y:Nat) (hx:x<18446744073709551616) (hy:y<18446744073709551616):Eqn Tryz.prog o_hq [.d (.int .u64 x),.d (.int .u64 y)] [] (.tup [.d (.int .u64 (x*y/18446744073709551616:Nat)),.d (.int .u64 (x*y%18446744073709551616:Nat))]) []:=by
 refine Eqn.pure o_hs (o_ol _ _) ?_
 refine cc (c':=?z37) ?_ ?_
 case refine_1=>cbv<;>exact rfl
 have hp:=o_ro x y hx hy
 simp only at hp
 have a1:=and32 x hx
 have a2:=and32 y hy
 have d1:(x:Int)/4294967296=(x/4294967296:Nat):=rfl
 have d2:(y:Int)/4294967296=(y/4294967296:Nat):=rfl
 have l1:x%4294967296<4294967296:=Nat.mod_lt _ (by decide)
 generalize x%4294967296=x0 at hp a1 l1
 generalize x/4294967296=x1 at hp d1
 generalize y%4294967296=y0 at hp a2
 generalize y/4294967296=y1 at hp d2
 obtain ⟨p1,p2,p3,p4,p5,p6,p7,p8,p9⟩:=hp
 have m1:IntKind.u64.wrap ((x0:Int)*y0)=(x0*y0:Nat):=by rw [←Int.natCast_mul];exact wu64 (by omega) (by omega)
 have m2:IntKind.u64.wrap ((x1:Int)*y0)=(x1*y0:Nat):=by rw [←Int.natCast_mul];exact wu64 (by omega) (by omega)
 have m3:IntKind.u64.wrap ((x0:Int)*y1)=(x0*y1:Nat):=by rw [←Int.natCast_mul];exact wu64 (by omega) (by omega)
 have m4:IntKind.u64.wrap ((x1:Int)*y1)=(x1*y1:Nat):=by rw [←Int.natCast_mul];exact wu64 (by omega) (by omega)
 have m5:IntKind.u64.wrap ((x:Int)*y)=(x*y%18446744073709551616:Nat):=by rw [IntKind.wrap_u64,Int.natCast_emod,Int.natCast_mul];rfl
 have lo:x*y%18446744073709551616<18446744073709551616:=Nat.mod_lt _ (by decide)
 generalize x*y%18446744073709551616=low at *
 generalize x*y=xy at *
 generalize x0*y0=a00 at *
 generalize x1*y0=a10 at *
 generalize x0*y1=a01 at *
 generalize x1*y1=a11 at *
 have q1:(a00:Int)/4294967296=(a00/4294967296:Nat):=rfl
 generalize a00/4294967296=b0 at *
 have s1:IntKind.u64.wrap ((a10:Int)+b0)=(a10+b0:Nat):=wu64 (by omega) (by omega)
 have a3:=and32 (a10+b0) p3
 have q2:((a10+b0:Nat):Int)/4294967296=((a10+b0)/4294967296:Nat):=rfl
 generalize (a10+b0)/4294967296=t1 at *
 generalize (a10+b0)%4294967296=t0 at *
 generalize a10+b0=t at *
 have s2:IntKind.u64.wrap ((t0:Int)+a01)=(t0+a01:Nat):=wu64 (by omega) (by omega)
 have q3:((t0+a01:Nat):Int)/4294967296=((t0+a01)/4294967296:Nat):=rfl
 generalize (t0+a01)/4294967296=v1 at *
 generalize t0+a01=v at *
 have s3:IntKind.u64.wrap ((a11:Int)+t1)=(a11+t1:Nat):=wu64 (by omega) (by omega)
 have s4:IntKind.u64.wrap (((a11+t1:Nat):Int)+v1)=(a11+t1+v1:Nat):=wu64 (by omega) (by omega)
 have fin:xy/18446744073709551616=a11+t1+v1:=by omega
 rw [fin]
 generalize a11+t1+v1=hi at *
 generalize a11+t1=r at *
 refine G1 (fs a1 (fs a2 (fs d1 (fs d2 (fs m1 (fs m2 (fs m3 (fs m4 (fs m5 (fs q1 (fs s1 (fs a3 (fs q2 (fs s2 (fs q3 (fs s3 s4)))))))))))))))) ?_;try with_reducible exact tt
end
section
open Go.RowKit
theorem o_rq (hi lo y:Nat) (h0:hi<y) (hl:lo<18446744073709551616) (hy:y<18446744073709551616) :
  ∃s Y u v:Nat,s=64-bitsN y∧s≤63∧y*2^s=Y∧Y<18446744073709551616∧9223372036854775808≤Y∧hi*2^s<18446744073709551616∧hi*2^s ||| lo/2^(64-s)=u∧lo*2^s%18446744073709551616=v∧u<Y∧v<18446744073709551616 ∧
   (hi*18446744073709551616+lo)*2^s=u*18446744073709551616+v:=by
 obtain ⟨b1,b2⟩:=o_qa (n:=y) (by omega)
 have b3:=o_q7 y
 have b4:bitsN y≤64:=o_q8 (by omega)
 have hs:64-bitsN y≤63:=by omega
 have hY1:y*2^(64-bitsN y)<18446744073709551616:=by
  have:2^bitsN y*2^(64-bitsN y)=18446744073709551616:=by rw [←Nat.pow_add,show bitsN y+(64-bitsN y)=64 by omega]
  rw [←this]
  exact Nat.mul_lt_mul_of_pos_right b3 (Nat.two_pow_pos _)
 have hY2:9223372036854775808≤y*2^(64-bitsN y):=by
  have:2^(bitsN y-1)*2^(64-bitsN y)=9223372036854775808:=by rw [←Nat.pow_add,show bitsN y-1+(64-bitsN y)=63 by omega]
  rw [←this]
  exact Nat.mul_le_mul_right _ b1
 generalize 64-bitsN y=s at *
 have hB:(18446744073709551616:Nat)=2^s*2^(64-s):=by rw [←Nat.pow_add,show s+(64-s)=64 by omega]
 have hp:=Nat.two_pow_pos s
 have hp':=Nat.two_pow_pos (64-s)
 have hh:hi*2^s<y*2^s:=Nat.mul_lt_mul_of_pos_right h0 hp
 have hlq:lo/2^(64-s)<2^s:=by rw [Nat.div_lt_iff_lt_mul hp',←hB];exact hl
 have hor:hi*2^s ||| lo/2^(64-s)=hi*2^s+lo/2^(64-s):=by
  rw [Nat.mul_comm,←Nat.two_pow_add_eq_or_of_lt hlq]
 have hlo:lo*2^s=lo/2^(64-s)*18446744073709551616+lo*2^s%18446744073709551616:=by
  have h1:lo*2^s/18446744073709551616=lo/2^(64-s):=by
   conv=>lhs;rw [hB]
   rw [Nat.mul_comm lo,Nat.mul_div_mul_left _ _ hp]
  have h2:=Nat.div_add_mod (lo*2^s) 18446744073709551616
  rw [h1] at h2
  omega
 have hlm:lo*2^s%18446744073709551616<18446744073709551616:=Nat.mod_lt _ (by decide)
 have hN:(hi*18446744073709551616+lo)*2^s=(hi*2^s)*18446744073709551616+lo*2^s:=by
  rw [Nat.add_mul,Nat.mul_right_comm]
 refine ⟨s,y*2^s,hi*2^s+lo/2^(64-s),lo*2^s%18446744073709551616,rfl,hs,rfl,hY1,hY2,by omega,hor,rfl,?_,hlm,?_⟩
 ·have h1:(hi+1)*2^s≤y*2^s:=Nat.mul_le_mul_right _ h0
  rw [Nat.add_mul,Nat.one_mul] at h1
  omega
 ·rw [hN,hlo,Nat.add_mul]
  generalize lo*2^s%18446744073709551616=a at *
  generalize lo/2^(64-s)=b at *
  generalize hi*2^s=c at *
  omega

def hInv (Y1 Y0 u v:Nat) (q r:Nat):Prop:=q*Y1+r=u∧u*4294967296+v<(q+1)*(Y1*4294967296+Y0)∧r<4294967296

theorem o_rr {Y1 Y0 u v:Nat} (h1:0<Y1) (h2:Y1<4294967296) (hv:v<4294967296):hInv Y1 Y0 u v (u/Y1) (u%Y1):=by
 refine ⟨?_,o_qg h1 hv,?_⟩
 ·rw [Nat.mul_comm];exact Nat.div_add_mod u Y1
 ·have:=Nat.mod_lt u h1;omega

set_option maxHeartbeats 8000000 in
theorem o_rs (hi lo y:Nat) (h0:hi<y) (hl:lo<18446744073709551616) (hy:y<18446744073709551616):Eqn Tryz.prog o_hz [.d (.int .u64 hi),.d (.int .u64 lo),.d (.int .u64 y)] [] (.tup [.d (.int .u64 ((hi*18446744073709551616+lo)/y:Nat)),.d (.int .u64 ((hi*18446744073709551616+lo)%y:Nat))]) []:=by
 rcases Nat.eq_zero_or_pos hi with rfl | hpos
 ·rw [Nat.zero_mul,Nat.zero_add]
  exact o_p4 lo y hl (by omega)
 refine Eqn.pure o_i1 (o_ol _ _) ?_
 refine cc (c':=?z38) ?_ ?_
 case refine_1=>cbv<;>exact rfl
 obtain ⟨s,Y,u,v,hs,hs63,hY,hYl,hYg,hhs,hor,hv,hu,hvl,hN⟩:=o_rq hi lo y h0 hl hy
 have hq:(hi*18446744073709551616+lo)/y=(u*18446744073709551616+v)/Y:=by rw [←hN,←hY];exact o_qh.1.symm
 have hr:(hi*18446744073709551616+lo)%y=(u*18446744073709551616+v)%Y/2^s:=by rw [←hN,←hY];exact o_qh.2.symm
 rw [hq,hr]
 clear hq hr hN
 obtain ⟨Qf,hQf⟩:∃Qf,Qf=(u*18446744073709551616+v)/Y:=⟨_,rfl⟩
 obtain ⟨Rf,hRf⟩:∃Rf,Rf=(u*18446744073709551616+v)%Y/2^s:=⟨_,rfl⟩
 rw [←hQf,←hRf]
 have h1:¬y=0:=by omega
 have h2:¬(y:Int)≤hi:=by omega
 have h3:¬hi=0:=by omega
 have h1':¬(y:Int)=0:=by omega
 have h3':¬(hi:Int)=0:=by omega
 refine G1 (fs h1 h1') ?_;try with_reducible exact tt
 refine AW.cond rfl (fun h=>?_) (fun h=>?_)
 ·simp [h1] at h
 refine G1 h2 ?_;try with_reducible exact tt
 refine AW.cond rfl (fun h=>?_) (fun h=>?_)
 ·simp [h2] at h
 refine G1 (fs h3 h3') ?_;try with_reducible exact tt
 refine AW.cond rfl (fun h=>?_) (fun h=>?_)
 ·simp [h3] at h
 refine G0 ?_;try with_reducible exact tt
 have hlead:=o_qr y hy
 rw [←hs] at hlead
 have hq1':=Nat.div_add_mod Y 4294967296
 have hY0':Y%4294967296<4294967296:=Nat.mod_lt _ (by decide)
 have hv':=Nat.div_add_mod v 4294967296
 have hv0':v%4294967296<4294967296:=Nat.mod_lt _ (by decide)
 have f1:IntKind.u64.wrap (s:Int)=s:=wu64 (by omega) (by omega)
 have f2:IntKind.u64.wrap ((y:Int)*2^s)=Y:=by
  rw [show (y:Int)*2^s=((y*2^s:Nat):Int) by rw [Int.natCast_mul,Int.natCast_pow];rfl,hY];exact wu64 (by omega) (by omega)
 have f3:(Y:Int)/4294967296=(Y/4294967296:Nat):=rfl
 have f4:=and32 Y hYl
 have f5:IntKind.u64.wrap ((hi:Int)*2^s)=(hi*2^s:Nat):=by
  rw [show (hi:Int)*2^s=((hi*2^s:Nat):Int) by rw [Int.natCast_mul,Int.natCast_pow];rfl];exact wu64 (by omega) (by omega)
 have f6:IntKind.u64.wrap ((64:Int)-s)=(64:Int)-s:=wu64 (by omega) (by omega)
 have f7:((64:Int)-s).toNat=64-s:=by omega
 have f8:(lo:Int)/2^(64-s)=(lo/2^(64-s):Nat):=by rw [Int.natCast_ediv,Int.natCast_pow];rfl
 have hll:lo/2^(64-s)≤lo:=Nat.div_le_self _ _
 have f9:=bits_or_u64_nat (hi*2^s) (lo/2^(64-s)) hhs (by omega)
 rw [hor] at f9
 have f10:IntKind.u64.wrap ((lo:Int)*2^s)=v:=by
  rw [IntKind.wrap_u64,show (lo:Int)*2^s=((lo*2^s:Nat):Int) by rw [Int.natCast_mul,Int.natCast_pow];rfl,←hv];rfl
 have f11:(v:Int)/4294967296=(v/4294967296:Nat):=rfl
 have f12:=and32 v hvl
 have f13:(s:Int)≤64:=by omega
 have f14:(0:Int)≤64-s:=by omega
 have f15:(64:Int)-s≤64:=by omega
 generalize Y/4294967296=Y1 at *
 generalize Y%4294967296=Y0 at *
 generalize v/4294967296=v1 at *
 generalize v%4294967296=v0 at *
 generalize hi*2^s=h' at *
 generalize lo/2^(64-s)=l' at *
 have hYY:Y=Y1*4294967296+Y0:=by omega
 have hvv:v=v1*4294967296+v0:=by omega
 have hY1:2147483648≤Y1:=by omega
 have hY1l:Y1<4294967296:=by omega
 have hY0:Y0<4294967296:=by omega
 have hv1:v1<4294967296:=by omega
 have hv0:v0<4294967296:=by omega
 have hYn:¬(Y1:Int)=0:=by omega
 have hYn':¬Y1=0:=by omega
 have huq:=Nat.div_add_mod u Y1
 have hqle:u/Y1≤u:=Nat.div_le_self _ _
 have g1:IntKind.u64.wrap ((u:Int)/Y1)=(u/Y1:Nat):=by rw [←Int.natCast_ediv];generalize u/Y1=q at *;exact wu64 (by omega) (by omega)
 have g2:IntKind.u64.wrap (((u/Y1:Nat):Int)*Y1)=(u/Y1*Y1:Nat):=by
  rw [Nat.mul_comm] at huq
  rw [←Int.natCast_mul];generalize u/Y1*Y1=q at *;exact wu64 (by omega) (by omega)
 have g3:IntKind.u64.wrap ((u:Int)-(u/Y1*Y1:Nat))=(u%Y1:Nat):=by
  rw [Nat.mul_comm] at huq
  generalize u/Y1*Y1=q at *
  generalize u%Y1=r at *
  rw [wu64 (by omega) (by omega)];omega
 obtain ⟨q1,hq1⟩:∃q1,q1=(u*4294967296+v1)/Y:=⟨_,rfl⟩
 have gA:IntKind.u64.wrap ((u:Int)-IntKind.u64.wrap ((u:Int)/Y1*Y1))=(u:Int)%Y1:=by
  have h1:((u:Int)/Y1*Y1)=((u/Y1:Nat):Int)*Y1:=by rw [Int.natCast_ediv]
  rw [h1,g2,g3,Int.natCast_emod]
 refine G0 ?_;try with_reducible exact tt
 refine CallS.pu (hlead) (R1 (fs f1 (fs f2 (fs f3 (fs f4 (fs f5 (fs f6 (fs f7 (fs f8 (fs f9 (fs f10 (fs f11 (fs f12 (fs f13 (fs f14 (fs f15 (fs hYn (fs hYn' g1))))))))))))))))) ?_);try with_reducible exact tt
 refine AW.blockCut 0 [(15,.d (.int .u64 q1))] [] (by simp) (by simp) ?_ ?_
 ·-- the half digit 15
  refine AW.loopT (α:=Nat×Nat) 0 (fun a=>[(15,.d (.int .u64 (a.1:Int))),(16,.d (.int .u64 (a.2:Int)))]) (fun _=>[]) (fun a=>hInv Y1 Y0 u v1 a.1 a.2) (fun a=>a.1) (u/Y1,u%Y1) (by simp) (by simp) (o_rr (by omega) (by omega) (by omega)) (by simp [gA]) (by simp) ?_
  rintro ⟨q,r⟩ ⟨i1,i2,i3⟩
  simp only at i1 i2 i3
  have hqY:q*2147483648≤q*Y1:=Nat.mul_le_mul_left _ hY1
  have hend:q*Y0≤r*4294967296+v1→q1=q:=fun h=>by rw [hq1,hYY];exact o_qd i1 h i2
  have hnext:(4294967296≤q∨r*4294967296+v1<q*Y0)→0<q∧(q-1)*Y1+(r+Y1)=u∧u*4294967296+v1<(q-1+1)*(Y1*4294967296+Y0):=fun h=>o_qe i1 (by omega) (by omega) h
  have hstep:∀(T:List V) ,(4294967296≤q∨r*4294967296+v1<q*Y0)→0<q∧hInv Y1 Y0 u v1 (q-1) (r+Y1)∨(0<q∧4294967296≤r+Y1∧q1=q-1):=fun _ h=>by
   obtain ⟨n1,n2,n3⟩:=hnext h
   rcases Nat.lt_or_ge (r+Y1) 4294967296 with h1 | h1
   ·exact .inl ⟨n1,n2,n3,h1⟩
   ·refine .inr ⟨n1,h1,?_⟩
    rw [hq1,hYY]
    exact o_qd n2 (o_qf n2 (by omega) hY0 h1 _) n3
  have b1:IntKind.u64.wrap ((r:Int)+Y1)=((r+Y1:Nat):Int):=wu64 (by omega) (by omega)
  have body:(4294967296≤q∨r*4294967296+v1<q*Y0)→IntKind.u64.wrap ((q:Int)-1)=((q-1:Nat):Int):=fun h=>by
   have:=(hnext h).1
   rw [wu64 (by omega) (by omega)];omega
  by_cases c1:4294967296≤q
  ·have c1':(4294967296:Int)≤q:=by omega
   refine G1 c1' ?_;try with_reducible exact tt
   refine AW.cond rfl (fun h=>?_) (fun h=>?_)
   ·have e1:=body (.inl c1)
    rcases hstep [] (.inl c1) with ⟨n1,n2⟩ | ⟨n1,n2,n3⟩
    ·have n4:¬(4294967296:Int)≤((r+Y1:Nat):Int):=by have:=n2.2.2;omega
     generalize hr':r+Y1=r' at *
     generalize hq':q-1=q' at *
     refine G1 (fs e1 (fs b1 n4)) ?_;try with_reducible exact tt
     refine AW.cond rfl (fun h=>?_) (fun h=>?_)
     ·first | (simp [n4] at h;done) | (simp [n4] at h;omega)
     refine G0 ?_;try with_reducible exact tt
     exact ⟨q',r',n2,by omega,by simp,by simp⟩
    ·have n4:(4294967296:Int)≤((r+Y1:Nat):Int):=by omega
     generalize hr':r+Y1=r' at *
     generalize hq':q-1=q' at *
     refine G1 (fs e1 (fs b1 n4)) ?_;try with_reducible exact tt
     refine AW.cond rfl (fun h=>?_) (fun h=>?_)
     ·refine AW.exit ?_
      (try (simp -implicitDefEqProofs;try simp (disch:=omega) only [w64,wu64]))
      rw [n3]
      exact Sub1.refl _
     ·first | (simp at h;done) | (simp at h;omega)
   ·simp [c1'] at h
  ·have c1':¬(4294967296:Int)≤q:=by omega
   have hqy:q*Y0≤4294967295*4294967295:=Nat.mul_le_mul (by omega) (by omega)
   have e1:IntKind.u64.wrap ((q:Int)*Y0)=((q*Y0:Nat):Int):=by rw [←Int.natCast_mul];exact wu64 (by omega) (by omega)
   have e2:IntKind.u64.wrap (4294967296*(r:Int))=((4294967296*r:Nat):Int):=wu64 (by omega) (by omega)
   have e3:IntKind.u64.wrap (((4294967296*r:Nat):Int)+v1)=((4294967296*r+v1:Nat):Int):=wu64 (by omega) (by omega)
   by_cases c2:r*4294967296+v1<q*Y0
   ·have c2':((4294967296*r+v1:Nat):Int)<((q*Y0:Nat):Int):=by omega
    have e4:=body (.inr c2)
    have hs:=hstep [] (.inr c2)
    clear hend hnext hstep body
    generalize q*Y0=m at *
    generalize 4294967296*r=m2 at *
    generalize m2+v1=m3 at *
    refine G1 (fs c1' (fs e1 (fs e2 (fs e3 c2')))) ?_;try with_reducible exact tt
    refine AW.cond rfl (fun h=>?_) (fun h=>?_)
    ·rcases hs with ⟨n1,n2⟩ | ⟨n1,n2,n3⟩
     ·have n4:¬(4294967296:Int)≤((r+Y1:Nat):Int):=by have:=n2.2.2;omega
      generalize hr':r+Y1=r' at *
      generalize hq':q-1=q' at *
      refine G1 (fs e4 (fs b1 n4)) ?_;try with_reducible exact tt
      refine AW.cond rfl (fun h=>?_) (fun h=>?_)
      ·first | (simp at h;done) | (simp at h;omega)
      refine G0 ?_;try with_reducible exact tt
      exact ⟨q',r',n2,by omega,by simp,by simp⟩
     ·have n4:(4294967296:Int)≤((r+Y1:Nat):Int):=by omega
      generalize hr':r+Y1=r' at *
      generalize hq':q-1=q' at *
      refine G1 (fs e4 (fs b1 n4)) ?_;try with_reducible exact tt
      refine AW.cond rfl (fun h=>?_) (fun h=>?_)
      ·refine AW.exit ?_
       (try (simp -implicitDefEqProofs;try simp (disch:=omega) only [w64,wu64]))
       rw [n3]
       exact Sub1.refl _
      ·first | (simp at h;done) | (simp at h;omega)
    ·first | (simp at h;done) | (simp at h;omega)
   ·have c2':¬((4294967296*r+v1:Nat):Int)<((q*Y0:Nat):Int):=by omega
    have e4:=hend (by omega)
    clear hend hnext hstep body
    generalize q*Y0=m at *
    generalize 4294967296*r=m2 at *
    generalize m2+v1=m3 at *
    refine G1 (fs c1' (fs e1 (fs e2 (fs e3 c2')))) ?_;try with_reducible exact tt
    refine AW.cond rfl (fun h=>?_) (fun h=>?_)
    ·first | (simp at h;done) | (simp at h;omega)
    ·refine AW.exit ?_
     (try (simp -implicitDefEqProofs;try simp (disch:=omega) only [w64,wu64]))
     rw [e4]
     exact Sub1.refl _
 obtain ⟨r1,hr1⟩:∃r1,r1=u*4294967296+v1-q1*Y:=⟨_,rfl⟩
 have hd:=Nat.div_add_mod (u*4294967296+v1) Y
 have hm:=Nat.mod_lt (u*4294967296+v1) (show Y>0 by omega)
 rw [←hq1,Nat.mul_comm] at hd
 have hr1l:r1<Y:=by omega
 have hq1l:q1<4294967296:=by
  rw [hq1,Nat.div_lt_iff_lt_mul (by omega)]
  omega
 have p1:IntKind.u64.wrap ((u:Int)*4294967296)=(u*4294967296%18446744073709551616:Nat):=by rw [IntKind.wrap_u64];rfl
 have p2:IntKind.u64.wrap (((u*4294967296%18446744073709551616:Nat):Int)+v1)=((u*4294967296+v1)%18446744073709551616:Nat):=by rw [IntKind.wrap_u64];omega
 have p3:IntKind.u64.wrap ((q1:Int)*Y)=(q1*Y%18446744073709551616:Nat):=by rw [IntKind.wrap_u64,←Int.natCast_mul];rfl
 have p4:IntKind.u64.wrap (((((u*4294967296+v1)%18446744073709551616:Nat)):Int)-(q1*Y%18446744073709551616:Nat))=(r1:Int):=by
  rw [IntKind.wrap_u64]
  generalize q1*Y=m at *
  omega
 have hrq:=Nat.div_add_mod r1 Y1
 have hrle:r1/Y1≤r1:=Nat.div_le_self _ _
 have g1':IntKind.u64.wrap ((r1:Int)/Y1)=(r1/Y1:Nat):=by rw [←Int.natCast_ediv];generalize r1/Y1=q at *;exact wu64 (by omega) (by omega)
 have g2':IntKind.u64.wrap (((r1/Y1:Nat):Int)*Y1)=(r1/Y1*Y1:Nat):=by
  rw [Nat.mul_comm] at hrq
  rw [←Int.natCast_mul];generalize r1/Y1*Y1=q at *;exact wu64 (by omega) (by omega)
 have g3':IntKind.u64.wrap ((r1:Int)-(r1/Y1*Y1:Nat))=(r1%Y1:Nat):=by
  rw [Nat.mul_comm] at hrq
  generalize r1/Y1*Y1=q at *
  generalize r1%Y1=r at *
  rw [wu64 (by omega) (by omega)];omega
 have gA':IntKind.u64.wrap ((r1:Int)-IntKind.u64.wrap ((r1:Int)/Y1*Y1))=(r1:Int)%Y1:=by
  have h1:((r1:Int)/Y1*Y1)=((r1/Y1:Nat):Int)*Y1:=by rw [Int.natCast_ediv]
  rw [h1,g2',g3',Int.natCast_emod]
 have hp:=halves' (y:=Y) (a:=u*4294967296+v1) (b:=4294967296) (v0:=v0) (q1:=q1) (q0:=(r1*4294967296+v0)/Y) (by omega) hq1.symm (by rw [←hr1])
 rw [←hr1] at hp
 obtain ⟨q0,hq0⟩:∃q0,q0=(r1*4294967296+v0)/Y:=⟨_,rfl⟩
 rw [←hq0] at hp
 rw [show u*18446744073709551616+v=(u*4294967296+v1)*4294967296+v0 by omega] at hQf hRf
 rw [hp.1] at hQf
 rw [hp.2] at hRf
 have hd0:=Nat.div_add_mod (r1*4294967296+v0) Y
 have hm0:=Nat.mod_lt (r1*4294967296+v0) (show Y>0 by omega)
 rw [←hq0,Nat.mul_comm] at hd0
 obtain ⟨r0,hr0⟩:∃r0,r0=r1*4294967296+v0-q0*Y:=⟨_,rfl⟩
 rw [←hr0] at hRf
 have hq0l:q0<4294967296:=by
  rw [hq0,Nat.div_lt_iff_lt_mul (by omega)]
  omega
 have s1:IntKind.u64.wrap ((r1:Int)*4294967296)=(r1*4294967296%18446744073709551616:Nat):=by rw [IntKind.wrap_u64];rfl
 have s2:IntKind.u64.wrap (((r1*4294967296%18446744073709551616:Nat):Int)+v0)=((r1*4294967296+v0)%18446744073709551616:Nat):=by rw [IntKind.wrap_u64];omega
 have s3:IntKind.u64.wrap ((q0:Int)*Y)=(q0*Y%18446744073709551616:Nat):=by rw [IntKind.wrap_u64,←Int.natCast_mul];rfl
 have s4:IntKind.u64.wrap (((((r1*4294967296+v0)%18446744073709551616:Nat)):Int)-(q0*Y%18446744073709551616:Nat))=(r0:Int):=by
  rw [IntKind.wrap_u64]
  generalize q0*Y=m at *
  omega
 have s5:IntKind.u64.wrap ((q1:Int)*4294967296)=(q1*4294967296:Nat):=wu64 (by omega) (by omega)
 have s6:IntKind.u64.wrap (((q1*4294967296:Nat):Int)+q0)=(q1*4294967296+q0:Nat):=wu64 (by omega) (by omega)
 have s7:(r0:Int)/2^s=(r0/2^s:Nat):=by rw [Int.natCast_ediv,Int.natCast_pow];rfl
 rw [←hRf] at s7
 rw [←hQf] at s6
 clear hp hd hm hr1 hq1 hr0 hd0 hm0 hRf hQf
 obtain ⟨t3,ht3⟩:∃t,t=q1*Y%18446744073709551616:=⟨_,rfl⟩
 rw [←ht3] at p3 p4
 obtain ⟨t2,ht2⟩:∃t,t=(u*4294967296+v1)%18446744073709551616:=⟨_,rfl⟩
 rw [←ht2] at p2 p4
 obtain ⟨t1,ht1⟩:∃t,t=u*4294967296%18446744073709551616:=⟨_,rfl⟩
 rw [←ht1] at p1 p2
 clear ht1 ht2 ht3
 simp
 repeat (first | refine AW.seq ?_ | refine AW.block ?_ | (refine AW.reg mix ?_;simp -implicitDefEqProofs [p1,p2,p3,p4,hYn,hYn',g1'];try simp (disch:=omega) only [w64,wu64]) | (refine need.of (by first | omega | kernel_rfl) ?_) | (refine AW.fin ?_;try simp -implicitDefEqProofs [p1,p2,p3,p4,hYn,hYn',g1']))
 refine AW.blockCut 0 [(18,.d (.int .u64 q0))] [] (by simp) (by simp) ?_ ?_
 ·-- the other half digit
  refine AW.loopT (α:=Nat×Nat) 0 (fun a=>[(18,.d (.int .u64 (a.1:Int))),(16,.d (.int .u64 (a.2:Int)))]) (fun _=>[]) (fun a=>hInv Y1 Y0 r1 v0 a.1 a.2) (fun a=>a.1) (r1/Y1,r1%Y1) (by simp) (by simp) (o_rr (by omega) (by omega) (by omega)) (by simp [gA']) (by simp) ?_
  rintro ⟨q,r⟩ ⟨i1,i2,i3⟩
  simp only at i1 i2 i3
  have hqY:q*2147483648≤q*Y1:=Nat.mul_le_mul_left _ hY1
  have hend:q*Y0≤r*4294967296+v0→q0=q:=fun h=>by rw [hq0,hYY];exact o_qd i1 h i2
  have hnext:(4294967296≤q∨r*4294967296+v0<q*Y0)→0<q∧(q-1)*Y1+(r+Y1)=r1∧r1*4294967296+v0<(q-1+1)*(Y1*4294967296+Y0):=fun h=>o_qe i1 (by omega) (by omega) h
  have hstep:∀(T:List V) ,(4294967296≤q∨r*4294967296+v0<q*Y0)→0<q∧hInv Y1 Y0 r1 v0 (q-1) (r+Y1)∨(0<q∧4294967296≤r+Y1∧q0=q-1):=fun _ h=>by
   obtain ⟨n1,n2,n3⟩:=hnext h
   rcases Nat.lt_or_ge (r+Y1) 4294967296 with h1 | h1
   ·exact .inl ⟨n1,n2,n3,h1⟩
   ·refine .inr ⟨n1,h1,?_⟩
    rw [hq0,hYY]
    exact o_qd n2 (o_qf n2 (by omega) hY0 h1 _) n3
  have b1:IntKind.u64.wrap ((r:Int)+Y1)=((r+Y1:Nat):Int):=wu64 (by omega) (by omega)
  have body:(4294967296≤q∨r*4294967296+v0<q*Y0)→IntKind.u64.wrap ((q:Int)-1)=((q-1:Nat):Int):=fun h=>by
   have:=(hnext h).1
   rw [wu64 (by omega) (by omega)];omega
  by_cases c1:4294967296≤q
  ·have c1':(4294967296:Int)≤q:=by omega
   refine G1 c1' ?_;try with_reducible exact tt
   refine AW.cond rfl (fun h=>?_) (fun h=>?_)
   ·have e1:=body (.inl c1)
    rcases hstep [] (.inl c1) with ⟨n1,n2⟩ | ⟨n1,n2,n3⟩
    ·have n4:¬(4294967296:Int)≤((r+Y1:Nat):Int):=by have:=n2.2.2;omega
     generalize hr':r+Y1=r' at *
     generalize hq':q-1=q' at *
     refine G1 (fs e1 (fs b1 n4)) ?_;try with_reducible exact tt
     refine AW.cond rfl (fun h=>?_) (fun h=>?_)
     ·first | (simp [n4] at h;done) | (simp [n4] at h;omega)
     refine G0 ?_;try with_reducible exact tt
     exact ⟨q',r',n2,by omega,by simp,by simp⟩
    ·have n4:(4294967296:Int)≤((r+Y1:Nat):Int):=by omega
     generalize hr':r+Y1=r' at *
     generalize hq':q-1=q' at *
     refine G1 (fs e1 (fs b1 n4)) ?_;try with_reducible exact tt
     refine AW.cond rfl (fun h=>?_) (fun h=>?_)
     ·refine AW.exit ?_
      (try (simp -implicitDefEqProofs;try simp (disch:=omega) only [w64,wu64]))
      rw [n3]
      exact Sub1.refl _
     ·first | (simp at h;done) | (simp at h;omega)
   ·simp [c1'] at h
  ·have c1':¬(4294967296:Int)≤q:=by omega
   have hqy:q*Y0≤4294967295*4294967295:=Nat.mul_le_mul (by omega) (by omega)
   have e1:IntKind.u64.wrap ((q:Int)*Y0)=((q*Y0:Nat):Int):=by rw [←Int.natCast_mul];exact wu64 (by omega) (by omega)
   have e2:IntKind.u64.wrap (4294967296*(r:Int))=((4294967296*r:Nat):Int):=wu64 (by omega) (by omega)
   have e3:IntKind.u64.wrap (((4294967296*r:Nat):Int)+v0)=((4294967296*r+v0:Nat):Int):=wu64 (by omega) (by omega)
   by_cases c2:r*4294967296+v0<q*Y0
   ·have c2':((4294967296*r+v0:Nat):Int)<((q*Y0:Nat):Int):=by omega
    have e4:=body (.inr c2)
    have hs:=hstep [] (.inr c2)
    clear hend hnext hstep body
    generalize q*Y0=m at *
    generalize 4294967296*r=m2 at *
    generalize m2+v0=m3 at *
    refine G1 (fs c1' (fs e1 (fs e2 (fs e3 c2')))) ?_;try with_reducible exact tt
    refine AW.cond rfl (fun h=>?_) (fun h=>?_)
    ·rcases hs with ⟨n1,n2⟩ | ⟨n1,n2,n3⟩
     ·have n4:¬(4294967296:Int)≤((r+Y1:Nat):Int):=by have:=n2.2.2;omega
      generalize hr':r+Y1=r' at *
      generalize hq':q-1=q' at *
      refine G1 (fs e4 (fs b1 n4)) ?_;try with_reducible exact tt
      refine AW.cond rfl (fun h=>?_) (fun h=>?_)
      ·first | (simp at h;done) | (simp at h;omega)
      refine G0 ?_;try with_reducible exact tt
      exact ⟨q',r',n2,by omega,by simp,by simp⟩
     ·have n4:(4294967296:Int)≤((r+Y1:Nat):Int):=by omega
      generalize hr':r+Y1=r' at *
      generalize hq':q-1=q' at *
      refine G1 (fs e4 (fs b1 n4)) ?_;try with_reducible exact tt
      refine AW.cond rfl (fun h=>?_) (fun h=>?_)
      ·refine AW.exit ?_
       (try (simp -implicitDefEqProofs;try simp (disch:=omega) only [w64,wu64]))
       rw [n3]
       exact Sub1.refl _
      ·first | (simp at h;done) | (simp at h;omega)
    ·first | (simp at h;done) | (simp at h;omega)
   ·have c2':¬((4294967296*r+v0:Nat):Int)<((q*Y0:Nat):Int):=by omega
    have e4:=hend (by omega)
    clear hend hnext hstep body
    generalize q*Y0=m at *
    generalize 4294967296*r=m2 at *
    generalize m2+v0=m3 at *
    refine G1 (fs c1' (fs e1 (fs e2 (fs e3 c2')))) ?_;try with_reducible exact tt
    refine AW.cond rfl (fun h=>?_) (fun h=>?_)
    ·first | (simp at h;done) | (simp at h;omega)
    ·refine AW.exit ?_
     (try (simp -implicitDefEqProofs;try simp (disch:=omega) only [w64,wu64]))
     rw [e4]
     exact Sub1.refl _
 clear hq0
 obtain ⟨t6,ht6⟩:∃t,t=q0*Y%18446744073709551616:=⟨_,rfl⟩
 rw [←ht6] at s3 s4
 obtain ⟨t5,ht5⟩:∃t,t=(r1*4294967296+v0)%18446744073709551616:=⟨_,rfl⟩
 rw [←ht5] at s2 s4
 obtain ⟨t4,ht4⟩:∃t,t=r1*4294967296%18446744073709551616:=⟨_,rfl⟩
 rw [←ht4] at s1 s2
 obtain ⟨t7,ht7⟩:∃t,t=q1*4294967296:=⟨_,rfl⟩
 rw [←ht7] at s5 s6
 clear ht4 ht5 ht6 ht7
 simp
 refine G1 (fs s1 (fs s2 (fs s3 (fs s4 (fs s5 (fs s6 (fs s7 f13))))))) ?_;try with_reducible exact tt
end
section
open Go.RowKit
theorem o_rt:∀(ws:List Nat) (j v:Nat),j<ws.length→wval (ws.set j v)+18446744073709551616^j*ws.getD j 0=wval ws+18446744073709551616^j*v
 | [],j,v,h=>by simp at h
 | x::l,0,v,h=>by simp [wval];omega
 | x::l,j+1,v,h=>by
  have ih:=o_rt l j v (by simpa using h)
  simp only [List.set_cons_succ,wval,Nat.pow_succ,List.getD_cons_succ]
  have e:∀z,18446744073709551616^j*18446744073709551616*z=18446744073709551616*(18446744073709551616^j*z):=fun z=>by
   rw [Nat.mul_right_comm,Nat.mul_comm]
  rw [e,e]
  omega
theorem o_ru {ws:List Nat} (h:small ws) (j v:Nat) (hv:v<18446744073709551616):small (ws.set j v):=by
 intro x hx
 rcases List.mem_or_eq_of_mem_set hx with hx | rfl
 ·exact h x hx
 ·exact hv
def uW (ws:List Nat):List V:=U ws
theorem o_rv (ws:List Nat):(uW ws).length=ws.length:=by simp [uW,U]
theorem o_rw {ws:List Nat} {j:Nat} (h:j<ws.length):(uW ws)[j]?=some (.d (.int .u64 (ws.getD j 0:Nat))):=by
 simp [uW,U,List.getD,h]
theorem o_rx (ws:List Nat) (j v:Nat):(uW ws).set j (.d (.int .u64 v))=uW (ws.set j v):=by simp [uW,U,List.map_set]
theorem o_ry (n:Nat) (ws:List Nat):V.lowl n (uW ws)=true:=o_ox n ws

theorem o_rz {vn v z1 z2 p b xy o c l2 h2:Nat} (hs2:vn+p*o=v+p*l2) (hv:v+p*c=z2+z1) (htot:xy+o+c=l2+b*h2):vn+p*b*h2=z2+(z1+p*xy):=by
 have e2:=congrArg (p * ·) htot
 simp only [Nat.mul_add] at e2
 rw [←Nat.mul_assoc] at e2
 omega
set_option maxHeartbeats 4000000 in
theorem o_s0 (m n:Nat) (hm:size m≤1000000) (hn:size n≤1000000):Eqn Tryz.prog o_ew [.d (.agg [natW m]),.d (.agg [natW n])] [] (.d (.agg [natW (m*n)])) []:=by
 refine Eqn.pure o_ey (o_5e _) ?_
 unfold size at hm hn
 rw [←o_nw m,←o_nw n]
 have hsA:=o_nx m
 have hsB:=o_nx n
 rw [show natW (wval (words m))=W (words m) by rw [o_nw];rfl,show natW (wval (words n))=W (words n) by rw [o_nw];rfl]
 generalize words m=A at *
 generalize words n=B at *
 refine cc (c':=?z39) ?_ ?_
 case refine_1=>cbv<;>exact rfl
 try simp only [W]
 have hlen:((A.length:Int)+B.length).toNat=A.length+B.length:=by omega
 refine G1 hlen ?_;try with_reducible exact tt
 rw [show List.replicate (A.length+B.length) (V.d (.int .u64 0))=uW (List.replicate (A.length+B.length) 0) by simp [uW,U]]
 refine AW.loopT (α:=Nat×List Nat) 4 (fun s=>[(25,.d (.int .i64 (s.1:Int)))]) (fun s=>[(3,⟨181,uW s.2⟩)]) (fun s=>s.1≤A.length∧s.2.length=A.length+B.length∧small s.2∧wval s.2=wval (A.take s.1)*wval B∧∀j,s.1+B.length≤j→s.2.getD j 0=0) (fun s=>A.length-s.1) (0,List.replicate (A.length+B.length) 0) ?_ ?_ ?_ ?_ ?_ ?_
 ·simp
 ·simp
 ·refine ⟨Nat.zero_le _,by simp,fun x hx=>by rw [List.eq_of_mem_replicate hx];omega,by simp [o_n0,wval],fun j _=>?_⟩
  simp [List.getD,List.getElem?_replicate]
  split<;>rfl
 ·simp
 ·simp [o_ry]
 rintro ⟨i,ws⟩ ⟨hi,hl,hs,hv,hz⟩
 simp only at hi hl hs hv hz
 simp
 by_cases h:i=A.length
 ·subst h
  rw [List.take_length] at hv
  refine G0 ?_;try with_reducible exact tt
  refine AW.cond rfl (fun h=>?_) (fun h=>?_)
  ·simp at h
  refine AW.exit ?_
  (try (simp -implicitDefEqProofs;try simp (disch:=omega) only [w64,wu64]))
  have hcell:uW ws=(ws.map fun x:Nat=>D.int .u64 x).map V.d:=by simp [uW,U]
  rw [hcell]
  refine AW.freeze 3 1 ⟨181,_⟩ (ws.map fun x:Nat=>.int .u64 x) (by rfl) (by rfl) ?_
  simp [←hl,List.take_of_length_le]
  refine G0 ?_;try with_reducible exact tt
  refine CallS.pu (o_o5 ws hs (by omega)) (R0 ?_);try with_reducible exact tt
  refine Sub1.of ?_
  rw [hv]
 ·have hi':i<A.length:=by omega
  have hp:(i:Int)<A.length:=by omega
  refine G1 (fs hi' hp) ?_;try with_reducible exact tt
  refine AW.cond rfl (fun h=>?_) (fun h=>?_)
  ·refine G1 (fs hi' hp) ?_;try with_reducible exact tt
   have hwA:A[i]=A.getD i 0:=o_o4 hi'
   have hx:A[i]<18446744073709551616:=hsA _ (List.getElem_mem _)
   generalize A[i]=x at hwA hx ⊢
   refine AW.loopT (α:=Nat×Nat×List Nat) 4 (fun s=>[(33,.d (.int .i64 (s.1:Int))),(8,.d (.int .u64 (s.2.1:Int)))]) (fun s=>[(3,⟨181,uW s.2.2⟩)]) (fun s=>s.1≤B.length∧s.2.1<18446744073709551616∧s.2.2.length=A.length+B.length∧small s.2.2∧wval s.2.2+18446744073709551616^(i+s.1)*s.2.1=wval (A.take i)*wval B+18446744073709551616^i*(x*wval (B.take s.1))∧∀j,i+B.length≤j→s.2.2.getD j 0=0) (fun s=>B.length-s.1) (0,0,ws) ?_ ?_ ⟨Nat.zero_le _,by simp,hl,hs,by simp [hv,wval],hz⟩ ?_ ?_ ?_
   ·simp
   ·simp
   ·simp
   ·simp [o_ry]
   clear hl hs hv hz
   rintro ⟨k,c,ws'⟩ ⟨hk,hc,hl,hs,hv,hz⟩
   simp only at hk hc hl hs hv hz
   simp
   have hlen':((i:Int)+B.length).toNat=i+B.length:=by omega
   have ew:IntKind.i64.wrap ((i:Int)+B.length)=((i+B.length:Nat):Int):=w64 (by omega) (by omega)
   have eu:=o_rv ws'
   have eset:=fun j v=>o_rx ws' j v
   by_cases hkl:k=B.length
   ·subst hkl
    rw [List.take_length] at hv
    refine G0 ?_;try with_reducible exact tt
    refine AW.cond rfl (fun h=>?_) (fun h=>?_)
    ·simp at h
    have hg:(uW ws').length=A.length+B.length:=by rw [eu];exact hl
    have e2:IntKind.i64.wrap ((i:Int)+1)=(i:Int)+1:=w64 (by omega) (by omega)
    refine G1 (fs hg (fs eset e2)) ?_;try with_reducible exact tt
    refine ⟨i+1,ws'.set (i+B.length) c,⟨hi',by simp [hl],o_ru hs _ _ hc,?_,fun j hj=>?_⟩,by omega,by simp,by rw [hlen'];simp,o_ry _ _⟩
    ·have h1:=o_rt ws' (i+B.length) c (by omega)
     rw [hz _ (Nat.le_refl _),Nat.mul_zero,Nat.add_zero] at h1
     rw [h1,hv,o_nk,Nat.add_mul,hwA,Nat.mul_assoc]
    ·have h1:=hz j (by omega)
     rw [List.getD] at h1
     rw [List.getElem?_set_ne (by omega)]
     exact h1
   ·have hk':k<B.length:=by omega
    have hkp:(k:Int)<B.length:=by omega
    refine G1 (fs hk' hkp) ?_;try with_reducible exact tt
    refine AW.cond rfl (fun h=>?_) (fun h=>?_)
    ·have hy:B[k]<18446744073709551616:=hsB _ (List.getElem_mem _)
     have hwB:B[k]=B.getD k 0:=o_o4 hk'
     have hg:(uW ws').length=A.length+B.length:=by rw [eu];exact hl
     have hik:i+k<ws'.length:=by omega
     have hik2:((i:Int)+k).toNat=i+k:=by omega
     have ewk:IntKind.i64.wrap ((i:Int)+k)=(i:Int)+k:=w64 (by omega) (by omega)
     have hgo:=o_rw hik
     have ho:=hs.getD (i+k)
     have hset:=fun v=>o_rt ws' (i+k) v hik
     generalize hO:ws'.getD (i+k) 0=o at hgo ho hset
     have e2:IntKind.i64.wrap ((k:Int)+1)=(k:Int)+1:=w64 (by omega) (by omega)
     refine G1 (fs hk' hkp) ?_;try with_reducible exact tt
     generalize B[k]=y at hy hwB ⊢
     have hmul:=o_rp x y hx hy
     have l0:x*y%18446744073709551616<18446744073709551616:=Nat.mod_lt _ (by decide)
     have hxy:x*y≤18446744073709551615*18446744073709551615:=Nat.mul_le_mul (by omega) (by omega)
     have hdm:=Nat.div_add_mod (x*y) 18446744073709551616
     obtain ⟨hi',hhi⟩:∃q,q=x*y/18446744073709551616:=⟨_,rfl⟩
     obtain ⟨lo,hlo⟩:∃q,q=x*y%18446744073709551616:=⟨_,rfl⟩
     obtain ⟨xy,hxyd⟩:∃q,q=x*y:=⟨_,rfl⟩
     rw [←hhi,←hlo] at hmul
     rw [←hlo] at l0
     rw [←hhi,←hlo,←hxyd] at hdm
     rw [←hxyd] at hxy
     obtain ⟨l1,k1,hl1,hll1,hk1⟩:∃l1 k1:Nat,lo+o+0=l1+18446744073709551616*k1∧l1<18446744073709551616∧k1≤1:=⟨(lo+o)%18446744073709551616,(lo+o)/18446744073709551616,by omega,by omega,by omega⟩
     obtain ⟨l2,k2,hl2,hll2,hk2⟩:∃l2 k2:Nat,l1+c+0=l2+18446744073709551616*k2∧l2<18446744073709551616∧k2≤1:=⟨(l1+c)%18446744073709551616,(l1+c)/18446744073709551616,by omega,by omega,by omega⟩
     have htot:xy+o+c=l2+18446744073709551616*(hi'+k1+k2):=by omega
     have hhl:hi'+k1+k2<18446744073709551616:=by omega
     have w1:IntKind.u64.wrap ((hi':Int)+k1)=((hi'+k1:Nat):Int):=wu64 (by omega) (by omega)
     have w2:IntKind.u64.wrap (((hi'+k1:Nat):Int)+k2)=((hi'+k1+k2:Nat):Int):=wu64 (by omega) (by omega)
     clear hhi hlo
     refine CallS.pu (hmul) (R1 (fs hg (fs hgo (fs hik2 ewk))) ?_);try with_reducible exact tt
     generalize hi'+k1=h1 at *
     generalize h1+k2=h2 at *
     refine CallS.pu (o_oa lo o 0 l1 k1 l0 ho (by omega) hll1 hl1) (R1 w1 ?_);try with_reducible exact tt
     refine CallS.pu (o_oa l1 c 0 l2 k2 hll1 hc (by omega) hll2 hl2) (R1 (fs w2 (fs hg (fs hik2 (fs ewk (fs eset e2))))) ?_);try with_reducible exact tt
     refine ⟨k+1,h2,ws'.set (i+k) l2,⟨hk',hhl,by simpa using hl,o_ru hs _ _ hll2,?_,fun j hj=>?_⟩,by omega,by simp,Subs.refl _,o_ry _ _⟩
     ·have hs2:=hset l2
      have e1:x*wval (B.take (k+1))=x*wval (B.take k)+18446744073709551616^k*xy:=by
       rw [o_nk,←hwB,Nat.mul_add,hxyd]
       congr 1
       rw [←Nat.mul_assoc,Nat.mul_comm x,Nat.mul_assoc]
      rw [e1,Nat.mul_add,←Nat.mul_assoc (18446744073709551616^i) (18446744073709551616^k) xy,←Nat.pow_add,←Nat.add_assoc i k 1,Nat.pow_succ]
      exact o_rz hs2 hv htot
     ·have h1:=hz j hj
      rw [←List.getD_eq_getElem?_getD]
      rw [List.getD] at h1 ⊢
      rw [List.getElem?_set_ne (by omega)]
      exact h1
    ·simp [hk'] at h
  ·simp [hi'] at h
end
section
open Go.RowKit
theorem o_s1 {x n m:Nat} (h:x<2^n) (hm:n≤64*m):size x≤m:=by
 apply o_ni (o_ny x)
 rw [o_nw,show (18446744073709551616:Nat)=2^64 by rfl,←Nat.pow_mul]
 exact Nat.lt_of_lt_of_le h (Nat.pow_le_pow_right (by omega) hm)
def splitW (y:Nat):List Nat→List Nat×Nat
 | []=>([],0)
 | x::l=>(((splitW y l).2*18446744073709551616+x)/y::(splitW y l).1,((splitW y l).2*18446744073709551616+x)%y)
theorem o_s2 {y:Nat} (h0:0<y):∀{l:List Nat},small l→wval l=wval (splitW y l).1*y+(splitW y l).2∧(splitW y l).2<y∧small (splitW y l).1∧(splitW y l).1.length=l.length
 | [],_=>⟨by simp [splitW,wval],h0,by simp [small,splitW],rfl⟩
 | x::l,h=>by
  have hx:=h x (by simp)
  obtain ⟨h1,h2,h3,h4⟩:=o_s2 h0 (l:=l) (fun z hz=>h z (by simp [hz]))
  simp only [splitW,wval,List.length_cons,h4]
  generalize splitW y l=s at *
  obtain ⟨Q,r⟩:=s
  simp only at *
  have hd:=Nat.div_add_mod (r*18446744073709551616+x) y
  have hm:=Nat.mod_lt (r*18446744073709551616+x) h0
  have hq:(r*18446744073709551616+x)/y<18446744073709551616:=by
   rw [Nat.div_lt_iff_lt_mul h0]
   have:(r+1)*18446744073709551616≤y*18446744073709551616:=Nat.mul_le_mul_right _ h2
   omega
  refine ⟨?_,hm,?_,trivial⟩
  ·rw [Nat.mul_comm y] at hd
   have e:18446744073709551616*(wval Q*y+r)=18446744073709551616*wval Q*y+r*18446744073709551616:=by rw [Nat.mul_add,Nat.mul_assoc,Nat.mul_comm r]
   rw [h1,e,Nat.add_mul]
   obtain ⟨z,hz⟩:∃z,z=(r*18446744073709551616+x)%y:=⟨_,rfl⟩
   obtain ⟨z2,hz2⟩:∃z,z=(r*18446744073709551616+x)/y*y:=⟨_,rfl⟩
   obtain ⟨z3,hz3⟩:∃z,z=18446744073709551616*wval Q*y:=⟨_,rfl⟩
   rw [←hz,←hz2] at hd
   rw [←hz,←hz2,←hz3]
   omega
  ·intro z hz
   rcases List.mem_cons.1 hz with rfl | hz
   ·exact hq
   ·exact h3 z hz

theorem o_s3 {y:Nat} (h0:0<y) {l:List Nat} (h:small l):wval (splitW y l).1=wval l/y∧(splitW y l).2=wval l%y:=by
 obtain ⟨h1,h2,_,_⟩:=o_s2 h0 h
 rw [h1]
 constructor
 ·rw [Nat.mul_comm,Nat.mul_add_div h0,Nat.div_eq_of_lt h2,Nat.add_zero]
 ·rw [Nat.mul_comm,Nat.mul_add_mod];exact (Nat.mod_eq_of_lt h2).symm

def splitC (y:Nat) (ws:List Nat) (k:Nat):List V:=U (List.replicate k 0++(splitW y (ws.drop k)).1)
theorem o_s4 {y:Nat} (h0:0<y) {ws:List Nat} (hs:small ws) {k:Nat} (hk:k≤ws.length):(splitC y ws k).length=ws.length:=by
 have:=(o_s2 h0 (l:=ws.drop k) (fun x hx=>hs x (List.mem_of_mem_drop hx))).2.2.2
 simp [splitC,U,this];omega

set_option maxHeartbeats 2000000 in
theorem o_s5 (ws:List Nat) (y:Nat) (hs:small ws) (hn:ws.length≤1000000) (h0:0<y) (hy:y<18446744073709551616):Eqn Tryz.prog o_ge [.d (W ws),.d (.int .u64 y)] [] (.tup [.d (W (splitW y ws).1),.d (.int .u64 (splitW y ws).2)]) []:=by
 refine Eqn.pure o_gg (o_ol _ _) ?_
 refine cc (c':=?z40) ?_ ?_
 case refine_1=>cbv<;>exact rfl
 try simp only [W]
 have hlen:=(o_s2 h0 hs).2.2.2
 rw [hlen]
 have hlowC:∀k,V.lowl 1 (splitC y ws k)=true:=fun k=>o_ox 1 _
 refine G0 ?_;try with_reducible exact tt
 rw [show List.replicate ws.length (V.d (.int .u64 0))=splitC y ws ws.length by simp [splitC,U,splitW]]
 refine AW.loopT (α:=Nat) 1 (fun k=>[(8,.d (.int .i64 ((k:Int)-1))),(7,.d (.int .u64 ((splitW y (ws.drop k)).2:Nat)))]) (fun k=>[(0,⟨181,splitC y ws k⟩)]) (fun k=>k≤ws.length) (fun k=>k) ws.length ?_ ?_ (Nat.le_refl _) ?_ ?_ ?_
 ·simp
 ·simp
 ·simp [splitW]
 ·simp [hlowC]
 rintro k hk
 simp
 cases k with
 | zero =>
  refine G0 ?_;try with_reducible exact tt
  refine AW.cond rfl (fun h=>?_) (fun h=>?_)
  ·simp at h
  refine AW.exit ?_
  (try (simp -implicitDefEqProofs;try simp (disch:=omega) only [w64,wu64]))
  rw [show splitC y ws 0=((splitW y ws).1.map fun x:Nat=>D.int .u64 x).map V.d by simp [splitC,U]]
  refine AW.freeze 0 1 ⟨181,_⟩ ((splitW y ws).1.map fun x:Nat=>.int .u64 x) (by rfl) (by rfl) ?_
  simp [←hlen,List.take_of_length_le]
  refine G0 ?_;try with_reducible exact tt
 | succ k =>
  have hk':k<ws.length:=hk
  have hdrop:ws.drop k=ws[k]::ws.drop (k+1):=List.drop_eq_getElem_cons hk'
  obtain ⟨i1,i2,i3,i4⟩:=o_s2 h0 (l:=ws.drop (k+1)) (fun x hx=>hs x (List.mem_of_mem_drop hx))
  have hl:=o_s4 h0 hs hk
  have hset:(splitC y ws (k+1)).set k (.d (.int .u64 (((splitW y (ws.drop (k+1))).2*18446744073709551616+ws[k])/y:Nat)))=splitC y ws k:=by
   rw [splitC,splitC,hdrop,splitW,U,U,List.replicate_succ',List.append_assoc,List.map_append,List.map_append,List.set_append_right _ _ (by simp)]
   simp
  have hrest:(splitW y (ws.drop k)).2=((splitW y (ws.drop (k+1))).2*18446744073709551616+ws[k])%y:=by rw [hdrop,splitW]
  have hx:ws[k]<18446744073709551616:=hs _ (List.getElem_mem _)
  have hdv:=o_rs (splitW y (ws.drop (k+1))).2 ws[k] y i2 hx hy
  rw [←hrest] at hdv
  generalize (splitW y (ws.drop (k+1))).2=r at *
  have e0:(0:Int)≤(k:Int)+1-1:=by omega
  have e1:(k:Int)+1-1=k:=by omega
  have e2:(((k:Int)+1-1)).toNat=k:=by omega
  have e3:IntKind.i64.wrap ((k:Int)-1)=(k:Int)-1:=w64 (by omega) (by omega)
  generalize hxk:ws[k]=x at *
  generalize hqd:(r*18446744073709551616+x)/y=q at *
  generalize hr'':(splitW y (ws.drop k)).2=r' at *
  refine G1 (fs e0 (fs e1 (fs e2 hk'))) ?_;try with_reducible exact tt
  refine AW.cond rfl (fun h=>?_) (fun h=>?_)
  ·refine G1 (fs e0 (fs e1 (fs e2 (fs hk' hxk)))) ?_;try with_reducible exact tt
   refine CallS.pu (hdv) (R1 (fs e1 (fs hl (fs hk' (fs hset e3)))) ?_);try with_reducible exact tt
   refine ⟨k,by omega,by omega,?_⟩
   rw [hr'']
   simp [hlowC]
  ·simp at h

theorem o_s6 (a b:Nat) (ha:size a≤1000000) (h0:0<b) (hb:b<18446744073709551616∨a<b) (hbs:size b≤1000000):Eqn Tryz.prog o_fz [.d (.agg [natW a]),.d (.agg [natW b])] [] (.tup [.d (.agg [natW (a/b)]),.d (.agg [natW (a%b)]),.d (.int .i64 0)]) []:=by
 refine Eqn.pure o_g1 (o_om _ _ _) ?_
 refine cc (c':=?z41) ?_ ?_
 case refine_1=>cbv<;>exact rfl
 refine G0 ?_;try with_reducible exact tt
 refine CallS.pu (o_o7 b) (R0 ?_);try with_reducible exact tt
 have hz:(b==0)=false:=by simp;omega
 refine AW.cond rfl (fun h=>?_) (fun h=>?_)
 ·simp [hz] at h
 refine G0 ?_;try with_reducible exact tt
 refine CallS.pu (o_o9 a b ha hbs) (R0 ?_);try with_reducible exact tt
 refine AW.cond rfl (fun h=>?_) (fun h=>?_)
 ·have hlt:a<b:=by simpa [o_p3] using h
  rw [Nat.div_eq_of_lt hlt,Nat.mod_eq_of_lt hlt]
  refine G0 ?_;try with_reducible exact tt
  refine CallS.pu (o_o6 (words a) (o_nx a) (by unfold size at ha;omega)) (R0 ?_);try with_reducible exact tt
  rw [o_nw]
  exact Sub1.tup (Subs.cons (Sub1.nat0) (Subs.refl _))
 ·have hge:¬a<b:=fun hlt=>by simp [o_p3,hlt] at h
  have hb1:b<18446744073709551616:=by omega
  have e':natW b = .sl 1 [.int .u64 b]:=by rw [natW,o_p1 (by omega) hb1];rfl
  have hsp:=o_s5 (words a) b (o_nx a) (by unfold size at ha;omega) h0 hb1
  obtain ⟨q1,q2,q3,q4⟩:=o_s2 h0 (o_nx a)
  have hd:=o_s3 h0 (o_nx a)
  rw [o_nw] at hd
  have htr:=o_o5 (splitW b (words a)).1 q3 (by unfold size at ha;omega)
  rw [hd.1] at htr
  rw [hd.2] at hsp q2
  rw [show W (words a)=natW a from rfl] at hsp
  generalize (splitW b (words a)).1=qs at *
  refine G1 e' ?_;try with_reducible exact tt
  refine AW.cond rfl (fun h=>?_) (fun h=>?_)
  ·refine G1 e' ?_;try with_reducible exact tt
   refine CallS.pu (hsp) (R0 ?_);try with_reducible exact tt
   refine CallS.pu (htr) (R0 ?_);try with_reducible exact tt
   refine CallS.pf 4 1 ⟨181,_⟩ [.int .u64 (a%b:Nat)] (o_o6 [a%b] (o_p2 (by omega)) (by simp)) (by first | rfl | (simp;done)) (R0 ?_);try with_reducible exact tt
   simp [wval]
  ·simp [e'] at h

theorem o_s7 (b:Nat) (hb:0<b) (hbs:size b≤1000000):Eqn Tryz.prog o_fw [.d (.agg [natW 1]),.d (.agg [natW b])] [] (.d (.agg [natW 1])) []:=by
 refine Eqn.pure o_fy (o_5e _) ?_
 refine cc (c':=?z42) ?_ ?_
 case refine_1=>cbv<;>exact rfl
 have s1:size 1≤1:=o_p8 (by omega)
 refine G0 ?_;try with_reducible exact tt
 refine AW.loopT (α:=Nat×Nat) 3 (fun _=>[]) (fun p=>[(0,⟨43,[.d (natW p.1)]⟩),(1,⟨43,[.d (natW p.2)]⟩)]) (fun p=>(p=(1,b)∨(p=(b,1)∧1<b)∨p=(1,0))) (fun p=>if p=(1,b)∧0<b then 3 else if p.2=0 then 1 else 2) (1,b) ?_ ?_ (.inl rfl) ?_ ?_ ?_
 ·simp
 ·simp
 ·simp
 ·simp
 rintro ⟨x,y⟩ hxy
 simp
 have hy:size y≤1000000∧size x≤1000000:=by
  rcases hxy with h | ⟨h,_⟩ | h<;>cases h
  ·exact ⟨hbs,by omega⟩
  ·exact ⟨by omega,hbs⟩
  ·exact ⟨by rw [show size 0=0 from rfl];omega,by omega⟩
 refine G0 ?_;try with_reducible exact tt
 refine CallS.pu (o_o7 y) (R0 ?_);try with_reducible exact tt
 by_cases h0:y=0
 ·subst h0
  have hx:x=1:=by
   rcases hxy with h | ⟨h,_⟩ | h<;>cases h
   ·omega
   ·rfl
  subst hx
  simp
  refine AW.cond rfl (fun h=>?_) (fun h=>?_)
  ·simp at h
  refine AW.exit ?_
  (try (simp -implicitDefEqProofs;try simp (disch:=omega) only [w64,wu64]))
  refine G0 ?_;try with_reducible exact tt
  refine CallS.pu (o_o6 (words 1) (o_nx 1) (by unfold size at s1;omega)) (R0 ?_);try with_reducible exact tt
  refine Sub1.of ?_
  rw [o_nw]
 ·refine AW.cond rfl (fun h=>?_) (fun h=>?_)
  ·refine G0 ?_;try with_reducible exact tt
   have hd:y<18446744073709551616∨x<y:=by
    rcases hxy with h | ⟨h,h1⟩ | h<;>cases h
    ·rcases Nat.lt_or_ge 1 b with h | h
     ·exact .inr h
     ·exact .inl (by omega)
    ·exact .inl (by omega)
    ·exact absurd rfl h0
   refine CallS.pu (o_s6 x y hy.2 (by omega) hd hy.1) (R0 ?_);try with_reducible exact tt
   rcases hxy with h | ⟨h,h1⟩ | h<;>cases h
   ·rcases Nat.lt_or_ge 1 b with h | h
    ·refine .inr (.inl ⟨b,1,⟨⟨rfl,rfl⟩,h⟩,?_,Subs.refl _,?_⟩)
     ·rw [if_neg (by omega),if_neg (by omega),if_pos ⟨⟨rfl,rfl⟩,hb⟩]
      omega
     ·rw [Nat.mod_eq_of_lt h];exact Subs.refl _
    ·obtain rfl:b=1:=by omega
     exact .inr (.inr ⟨by simp,Subs.refl _,by simp⟩)
   ·refine .inr (.inr ⟨?_,Subs.refl _,by rw [Nat.mod_one];exact Subs.refl _⟩)
    rw [if_neg (by omega),if_neg (by omega),if_neg (by omega)]
    omega
   ·exact absurd rfl h0
  ·simp at h
   exact absurd h h0

theorem o_s8 (b:Nat) (h0:0<b) (hb:size b≤1000000):Eqn Tryz.prog o_cg [.d (.agg [natW 1,.bool false]),.d (.agg [natW b])] [] (.d (.agg [natW 1,.bool false,natW (b-1)])) []:=by
 refine Eqn.pure o_ci (o_5e _) ?_
 refine cc (c':=?z43) ?_ ?_
 case refine_1=>cbv<;>exact rfl
 have s1:size 1≤1:=o_p8 (by omega)
 have h1:=o_s6 1 1 (by omega) (by omega) (.inl (by omega)) (by omega)
 have h2:=o_s6 b 1 hb (by omega) (.inl (by omega)) (by omega)
 rw [Nat.div_one] at h1 h2
 refine G0 ?_;try with_reducible exact tt
 refine CallS.pu (o_pa 1 false) (R0 ?_);try with_reducible exact tt
 refine CallS.pu (o_s7 b h0 hb) (R0 ?_);try with_reducible exact tt
 refine CallS.pu (o_pa 1 false) (R0 ?_);try with_reducible exact tt
 refine CallS.pu (h1) (R0 ?_);try with_reducible exact tt
 refine CallS.pu (h2) (R0 ?_);try with_reducible exact tt
 refine CallS.pf 8 1 ⟨181,_⟩ [.int .u64 (1:Nat)] (o_o6 [1] (o_p2 (by omega)) (by simp)) (by first | rfl | (simp;done)) (R0 ?_);try with_reducible exact tt
 refine CallS.pu (o_or b 1 hb (by omega)) (R0 ?_);try with_reducible exact tt
 refine CallS.pu (o_pb 1 false) (R0 ?_);try with_reducible exact tt
 refine CallS.pu (o_p9 1) (R0 ?_);try with_reducible exact tt

theorem o_s9 (k:Nat) (hk:k≤8192):size (2^k)≤129:=o_s1 (n:=k+1) (Nat.pow_lt_pow_right (by omega) (Nat.lt_succ_self _)) (by omega)
theorem o_sa (k:Nat) (hk:k≤8192):Eqn Tryz.prog o_gt [.d (.int .i64 k)] [] (.tup [.d (.agg [natW 1,.bool false,natW (2^k-1)]),.d (.int .i64 0)]) []:=by
 refine Eqn.pure o_gv (o_ol _ _) ?_
 refine cc (c':=?z44) ?_ ?_
 case refine_1=>cbv<;>exact rfl
 have hs:=o_s9 k hk
 have hp:=Nat.two_pow_pos k
 have s1:size 1≤1:=o_p8 (by omega)
 have h1:=o_p0 1 k (by omega) hk
 rw [Nat.one_mul] at h1
 generalize 2^k=b at *
 refine G0 ?_;try with_reducible exact tt
 refine CallS.pf 1 1 ⟨181,_⟩ [.int .u64 (1:Nat)] (o_o6 [1] (o_p2 (by omega)) (by simp)) (by first | rfl | (simp;done)) (R0 ?_);try with_reducible exact tt
 refine CallS.pu (h1) (R0 ?_);try with_reducible exact tt
 refine AW.cond rfl (fun h=>?_) (fun h=>?_)
 ·simp at h
 refine G0 ?_;try with_reducible exact tt
 refine CallS.pu (o_pc 1 (by omega)) (R0 ?_);try with_reducible exact tt
 refine CallS.pu (o_s8 b hp (by omega)) (R0 ?_);try with_reducible exact tt
end
section
open Go.RowKit
def spcL:ByteArray:=⟨#[32,32,32,32,32,32,32,32,32,32,32,32,32,32,32,32,32,32,32,32,32,32,32,32,32,32,32,32,32,32,32,32,32,32,32,32,32,32,32,32,32,32,32,32,32,32,32,32,32,32,32,32,32,32,32,32,32,32,32,32,32,32,32,32,32,32,32,32,32,32,32,32,32,32,32,32,32,32,32,32,32,32,32,32,32,32,32,32,32,32,32,32,32,32,32,32,32,32,32,32,32,32,32,32,32,32,32,32,32,32,32,32,32,32,32,32,32,32,32,32,32,32,32,32,32,32,32,32]⟩
def dshL:ByteArray:=⟨#[45,45,45,45,45,45,45,45,45,45,45,45,45,45,45,45,45,45,45,45,45,45,45,45,45,45,45,45,45,45,45,45,45,45,45,45,45,45,45,45,45,45,45,45,45,45,45,45,45,45,45,45,45,45,45,45,45,45,45,45,45,45,45,45,45,45,45,45,45,45,45,45,45,45,45,45,45,45,45,45,45,45,45,45,45,45,45,45,45,45,45,45,45,45,45,45,45,45,45,45,45,45,45,45,45,45,45,45,45,45,45,45,45,45,45,45,45,45,45,45,45,45,45,45,45,45,45,45]⟩
def zerL:ByteArray:=⟨#[48,48,48,48,48,48,48,48,48,48,48,48,48,48,48,48,48,48,48,48,48,48,48,48,48,48,48,48,48,48,48,48,48,48,48,48,48,48,48,48,48,48,48,48,48,48,48,48,48,48,48,48,48,48,48,48,48,48,48,48,48,48,48,48]⟩
theorem o_sb:spcL.size=128:=by kernel_rfl
theorem o_sc:dshL.size=128:=by kernel_rfl
theorem o_sd:zerL.size=64:=by kernel_rfl
theorem o_se:((spcL.extract 0 1).toList==(⟨#[48]⟩:ByteArray).toList)=false:=by kernel_rfl
theorem o_sf:((dshL.extract 0 1).toList==(⟨#[48]⟩:ByteArray).toList)=false:=by kernel_rfl
theorem o_sg:((zerL.extract 0 1).toList==(⟨#[48]⟩:ByteArray).toList)=true:=by kernel_rfl
theorem o_sh:((List.range 65).all fun k=>(zerL.extract 0 k).data.toList==(List.replicate k 48).map UInt8.ofNat)=true:=by kernel_rfl
theorem o_si (k:Nat) (h:k≤64):zerL.extract 0 k=bst (List.replicate k 48):=by
 have:=List.all_eq_true.1 o_sh k (by simp;omega)
 simp only [beq_iff_eq] at this
 unfold bst
 rw [←this]
theorem o_sj (s p:ByteArray) (h:p.size≤s.size) (hs:s.size≤1000):Eqn Tryz.prog o_jb [.d (.str s),.d (.str p)] [] (.d (.bool ((s.extract 0 p.size).toList==p.toList))) []:=by
 refine Eqn.pure o_jd Plain.ok ?_
 refine cc (c':=?z45) ?_ ?_
 case refine_1=>cbv<;>exact rfl
 have h':(p.size:Int)≤s.size:=by omega
 refine A10 (fs h h') ?_;try with_reducible exact tt
theorem o_sk (s p:ByteArray) (h:p.size≤s.size) (hs:s.size≤1000):Eqn Tryz.prog o_i8 [.d (.str s),.d (.str p)] [] (.d (.bool ((s.extract 0 p.size).toList==p.toList))) []:=by
 refine Eqn.pure o_ia Plain.ok ?_
 refine cc (c':=?z46) ?_ ?_
 case refine_1=>cbv<;>exact rfl
 have hh:=o_sj s p h hs
 refine A01 hh ?_;try with_reducible exact tt
theorem o_sl (k:Nat) (h:k<18446744073709551616):Eqn Tryz.prog o_i5 [.d (.int .u64 1),.d (.int .u64 k)] [] (.tup [.d (.int .u64 0),.d (.int .u64 k)]) []:=by
 refine Eqn.pure o_i7 Plain.ok ?_
 refine cc (c':=?z47) ?_ ?_
 case refine_1=>cbv<;>exact rfl
 have hm:=o_rp 1 k (by omega) h
 rw [Nat.one_mul,Nat.div_eq_of_lt h,Nat.mod_eq_of_lt h] at hm
 refine A01 hm ?_;try with_reducible exact tt
@[simp] theorem o_sm:ByteArray.size ⟨#[48]⟩=1:=rfl
theorem o_sn (k:Nat) (hk:k≤18):Eqn Tryz.prog o_gk [.d (.str ⟨#[48]⟩),.d (.int .i64 k)] [] (.d (.str (bst (List.replicate k 48)))) []:=by
 refine Eqn.pure o_gm Plain.ok ?_
 refine cc (c':=?z48) ?_ ?_
 case refine_1=>cbv<;>exact rfl
 rw [show (⟨#[32,32,32,32,32,32,32,32,32,32,32,32,32,32,32,32,32,32,32,32,32,32,32,32,32,32,32,32,32,32,32,32,32,32,32,32,32,32,32,32,32,32,32,32,32,32,32,32,32,32,32,32,32,32,32,32,32,32,32,32,32,32,32,32,32,32,32,32,32,32,32,32,32,32,32,32,32,32,32,32,32,32,32,32,32,32,32,32,32,32,32,32,32,32,32,32,32,32,32,32,32,32,32,32,32,32,32,32,32,32,32,32,32,32,32,32,32,32,32,32,32,32,32,32,32,32,32,32]⟩:ByteArray)=spcL from rfl]
 rw [show (⟨#[45,45,45,45,45,45,45,45,45,45,45,45,45,45,45,45,45,45,45,45,45,45,45,45,45,45,45,45,45,45,45,45,45,45,45,45,45,45,45,45,45,45,45,45,45,45,45,45,45,45,45,45,45,45,45,45,45,45,45,45,45,45,45,45,45,45,45,45,45,45,45,45,45,45,45,45,45,45,45,45,45,45,45,45,45,45,45,45,45,45,45,45,45,45,45,45,45,45,45,45,45,45,45,45,45,45,45,45,45,45,45,45,45,45,45,45,45,45,45,45,45,45,45,45,45,45,45,45]⟩:ByteArray)=dshL from rfl]
 rw [show (⟨#[48,48,48,48,48,48,48,48,48,48,48,48,48,48,48,48,48,48,48,48,48,48,48,48,48,48,48,48,48,48,48,48,48,48,48,48,48,48,48,48,48,48,48,48,48,48,48,48,48,48,48,48,48,48,48,48,48,48,48,48,48,48,48,48]⟩:ByteArray)=zerL from rfl]
 by_cases h0:k=0
 ·subst h0
  refine A00 ?_;try with_reducible exact tt
  exact Sub1.of rfl
 by_cases h1:k=1
 ·subst h1
  refine A00 ?_;try with_reducible exact tt
  exact Sub1.of rfl
 have e1:=o_sb
 have e2:=o_sc
 have e3:=o_sd
 have p1:=o_sk spcL ⟨#[48]⟩ (by rw [e1];decide) (by omega)
 have p2:=o_sk dshL ⟨#[48]⟩ (by rw [e2];decide) (by omega)
 have p3:=o_sk zerL ⟨#[48]⟩ (by rw [e3];decide) (by omega)
 rw [o_sm,o_se] at p1
 rw [o_sm,o_sf] at p2
 rw [o_sm,o_sg] at p3
 have hx:=o_si k (by omega)
 have hm:=o_sl k (by omega)
 generalize spcL=s1 at *
 generalize dshL=s2 at *
 generalize zerL=s3 at *
 have ku:IntKind.u64.wrap (k:Int)=k:=by rw [IntKind.wrap_u64];omega
 have ki:IntKind.i64.wrap (k:Int)=k:=by rw [IntKind.wrap_i64];omega
 have g1:¬(k:Int)=0:=by omega
 have g2:¬(k:Int)=1:=by omega
 have g3:¬(k:Int)<0:=by omega
 have g4:(k:Int)≤128:=by omega
 have g5:(k:Int)≤64:=by omega
 have g6:¬(9223372036854775807:Int)<k:=by omega
 have e3k:k≤s3.size:=by omega
 refine A14 (fs h0 (fs h1 (fs g1 (fs g2 (fs g3 (fs g4 (fs g5 (fs g6 (fs ku (fs ki (fs e3 (fs hx e3k)))))))))))) hm p1 p2 p3 ?_;try with_reducible exact tt
 done
end
end Go.Proofs.YtabnkmpkcfjkmaaGreatDoor.Am
