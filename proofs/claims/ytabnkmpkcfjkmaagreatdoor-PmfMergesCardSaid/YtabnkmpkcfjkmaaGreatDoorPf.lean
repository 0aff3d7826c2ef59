/- Parts of the proof: WtA, WtB, PmfG, Pmf9, PmfA, PmfB, PmfK, PmfC, PmfI, PmfJ, PmfO, PmfP, PmfQ, PmfU, PmfR, PmfS, PmfT, PmfV, PmfW, PmfY, PmfZ, PmfCa, PmfCb, PmfCc, PmfD, PmfE, PmfF, PmfCd, WtC, PtM, PtN, TailN, FalN, TailA, TailB, TailC, TailD, TailE, TailF, TailG, Mor3, Mor4, Mor5, TailH, TailI, FalA, PtA, PtB, PtC, PtD, TailJ, PmfEb, TailK, TailM2, TailT, TailO, FalB, WtD, WtE, WtW, WtX, WtY, WtZ, WtJ, WtK, WtL, WtF, PtH. -/
import Derived.Test.YtabnkmpkcfjkmaaGreatDoorPe
set_option linter.unusedVariables false
set_option linter.unusedSimpArgs false
set_option maxRecDepth 100000
namespace Go.Proofs.YtabnkmpkcfjkmaaGreatDoor.Am
section
open Go.RowKit
def wtH (A:FuncId) (T6 T7 T8:TypeId) (c6 c7 c8:List D) (X:Wm×Nat):List Ob :=
 [⟨85,[.fn (.func A) [.p 6 0,.p 7 0,.p 8 0]]⟩,⟨3,[.d (.int .i64 11)]⟩,⟨96,[.fn (.func o_bp) [.p 0 0,.p 1 0,.p 2 0,.p 3 0,.p 4 0]]⟩,⟨80,[.mp 5]⟩,⟨3,[.d (.int .i64 X.2)]⟩,⟨1000386,(spN X.1).map .d⟩,⟨T6,c6.map .d⟩,⟨T7,c7.map .d⟩,⟨T8,c8.map .d⟩]
structure AskOK (A:FuncId) (T6 T7 T8:TypeId) (c6 c7 c8:List D) (ask:List Bool→St×Int):Prop where
 t6:T6<1000000
 t7:T7<1000000
 t8:T8<1000000
 run:∀cs:List Bool,cs.length≤20→∃p dd,Eqn Tryz.prog A [.p 0 0,.p 1 0,.p 2 0,.p 3 0] [tapeO cs 0 false,⟨T6,c6.map .d⟩,⟨T7,c7.map .d⟩,⟨T8,c8.map .d⟩] (.tup [.d (.agg (stD (ask cs).1)),.d (.int .i64 (ask cs).2)]) [tapeO cs p dd,⟨T6,c6.map .d⟩,⟨T7,c7.map .d⟩,⟨T8,c8.map .d⟩]
set_option maxHeartbeats 8000000 in
theorem o_145 {A:FuncId} {T6 T7 T8:TypeId} {c6 c7 c8:List D} {ask:List Bool→St×Int} (h:AskOK A T6 T7 T8 c6 c7 c8 ask) (d:Nat) (ih:d≠0→∀(pre:List Bool) (X:Wm×Nat),pre.length+(d-1)=11→X.2+2^(d-1)≤2^40→(∀s,getN s X.1+2^(d-1)≤2^40) →
  Eqn Tryz.prog o_bp [.d (.sl pre.length (pre.map .bool)),.p 0 0,.p 1 0,.p 2 0,.p 3 0,.p 4 0] (wtH A T6 T7 T8 c6 c7 c8 X) (.tup []) (wtH A T6 T7 T8 c6 c7 c8 (walkN ask (d-1) pre X))) (pre:List Bool) (X:Wm×Nat) (hl:pre.length+d=11) (h1:X.2+2^d≤2^40) (h2:∀s,getN s X.1+2^d≤2^40) :
  Eqn Tryz.prog o_bp [.d (.sl pre.length (pre.map .bool)),.p 0 0,.p 1 0,.p 2 0,.p 3 0,.p 4 0] (wtH A T6 T7 T8 c6 c7 c8 X) (.tup []) (wtH A T6 T7 T8 c6 c7 c8 (walkN ask d pre X)):=by
 obtain ⟨L,op⟩:=X
 simp only at h1 h2
 obtain ⟨p,dd,hr⟩:=h.run pre (by omega)
 have hnw:=o_ri pre (by omega)
 simp only [BL] at hnw
 have g6:=h.t6
 have g7:=h.t7
 have g8:=h.t8
 have e1:IntKind.i64.wrap (11-(pre.length:Int))=(d:Int):=by rw [w64 (by omega) (by omega)];omega
 obtain ⟨w,hw⟩:∃w,w=2^d:=⟨_,rfl⟩
 have hw1:1≤w:=by rw [hw];exact Nat.two_pow_pos d
 have e2:IntKind.i64.wrap ((2:Int)^d)=(w:Int):=by
  have:((2:Int)^d)=(w:Int):=by rw [hw,Int.natCast_pow];rfl
  rw [this,w64 (by omega) (by omega)]
 have e3:(0:Int)≤d∧d≤64:=by omega
 have e5:d≤64:=by omega
 have e4:((d:Int)).toNat=d:=by omega
 refine Eqn.gen [0,1,2,3,4,5,6,7,8] o_br (by simp [wtH]) (by simp [wtH]) (by rfl) (by decide) (by simp [wtH,o_62]) (by simp [wtH,h.t6,h.t7,h.t8,o_62]) ?_
 obtain ⟨R,hR⟩:∃R,R=walkN ask d pre (L,op):=⟨_,rfl⟩
 rw [←hR]
 have hask:∃s1 s2 s3 e,ask pre=((s1,s2,s3),e):=⟨_,_,_,_,rfl⟩
 obtain ⟨s1,s2,s3,e,hask⟩:=hask
 rw [hask] at hr
 refine cc (c':=?z246) ?_ ?_
 case refine_1=>cbv<;>exact rfl
 try simp only [wtH,stD] at hr ih ⊢
 refine A00 ?_;try with_reducible exact tt
 refine CallS.n1 (hnw) (R0 ?_);try with_reducible exact tt
 have hS:=o_12k (s1,s2,s3) L
 have hM:=o_12l (s1,s2,s3) L
 have hE:=o_12p (s1,s2,s3) L (getN (s1,s2,s3) L+w)
 have hT:=o_12q L (s1,s2,s3)
 have hsm:=h2 (s1,s2,s3)
 simp only [stD] at hS hM
 have hwk:walkN ask d pre (L,op)=if e=8∧d≠0 then walkN ask (d-1) (pre++[true]) (walkN ask (d-1) (pre++[false]) (L,op)) else if e=0 then (addN L (s1,s2,s3) w,op) else (L,op+w):=by
  cases d with
  | zero=>unfold walkN;rw [hask,hw];simp
  | succ d =>
   have hd1:walkN ask (d+1) pre (L,op)=(if (ask pre).2=8 then walkN ask d (pre++[true]) (walkN ask d (pre++[false]) (L,op)) else if (ask pre).2=0 then (addN L (ask pre).1 (2^(d+1)),op) else (L,op+2^(d+1))):=rfl
   rw [hd1,hask,hw]
   simp
 rw [hwk] at hR
 by_cases he:e=8
 ·subst he
  rcases Nat.eq_zero_or_pos d with hd | hd
  ·have hk:¬(pre.length:Int)<11:=by omega
   have hk2:¬pre.length<11:=by omega
   rw [if_neg (by simp [hd]),if_neg (by decide)] at hR
   subst hR
   have ew:IntKind.i64.wrap ((op:Int)+(w:Int))=((op+w:Nat):Int):=by rw [w64 (by omega) (by omega)];omega
   refine CallS.g [9,6,7,8] (hr) (R1 (fs e1 (fs e2 (fs e3 (fs e4 (fs e5 (fs hk hk2)))))) ?_);try with_reducible exact tt
   refine A10 (fs hk hk2) ?_;try with_reducible exact tt
   exact Subs.refl _
  ·have hk:(pre.length:Int)<11:=by omega
   have hk2:pre.length<11:=by omega
   have hp2:pre.length≤140737488355327:=by omega
   refine CallS.g [9,6,7,8] (hr) (R1 (fs e1 (fs e2 (fs e3 (fs e4 (fs e5 (fs hk hk2)))))) ?_);try with_reducible exact tt
   have hd1:d-1+1=d:=by omega
   have hw2:w=2^(d-1)+2^(d-1):=by rw [hw,←hd1,Nat.pow_succ];simp;omega
   obtain ⟨k1,k2⟩:=o_12s (ask:=ask) (d-1) (pre++[false]) (L,op)
   have i1:=ih (by omega) (pre++[false]) (L,op) (by simp;omega) (by simp only;omega) (fun s=>by have:=h2 s;simp only;omega)
   have i2:=ih (by omega) (pre++[true]) (walkN ask (d-1) (pre++[false]) (L,op)) (by simp;omega) (by simp only at k1;omega) (fun s=>by have:=k2 s;have:=h2 s;simp only at *;omega)
   rw [if_pos ⟨rfl,by omega⟩] at hR
   rw [←hR] at i2
   generalize walkN ask (d-1) (pre++[false]) (L,op)=Y at *
   by_cases hnil:pre=[]
   ·subst hnil
    simp at i1 i2
    refine A10 (fs hk (fs hk2 hp2)) ?_;try with_reducible exact tt
    refine CallS.gf 12 1 ⟨4,_⟩ [.bool false] [0,1,2,3,4,5,6,7,8] (i1) (R0 ?_);try with_reducible exact tt
    refine CallS.gf 14 1 ⟨4,_⟩ [.bool true] [0,1,2,3,4,5,6,7,8] (i2) (R0 ?_);try with_reducible exact tt
   ·simp only [List.length_append,List.length_singleton,List.map_append,List.map_cons,List.map_nil] at i1 i2
    have tk1:(pre.map D.bool++[D.bool false]).take ((pre.length+1)*1)=pre.map D.bool++[D.bool false]:=List.take_of_length_le (by simp)
    have tk2:(pre.map D.bool++[D.bool true]).take ((pre.length+1)*1)=pre.map D.bool++[D.bool true]:=List.take_of_length_le (by simp)
    have tk0:List.take pre.length (List.map (V.d ∘ D.bool) pre)=List.map (V.d ∘ D.bool) pre:=List.take_of_length_le (by simp)
    rw [←tk1] at i1
    rw [←tk2] at i2
    refine A10 (fs hk (fs hk2 (fs hp2 (fs hnil tk0)))) ?_;try with_reducible exact tt
    refine CallS.gf 12 1 ⟨4,_⟩ (pre.map D.bool++[D.bool false]) [0,1,2,3,4,5,6,7,8] (i1) (R1 (fs hk (fs hk2 (fs hp2 (fs hnil tk0)))) ?_);try with_reducible exact tt
    refine A10 (fs hk (fs hk2 (fs hp2 (fs hnil tk0)))) ?_;try with_reducible exact tt
    refine CallS.gf 14 1 ⟨4,_⟩ (pre.map D.bool++[D.bool true]) [0,1,2,3,4,5,6,7,8] (i2) (R1 (fs hk (fs hk2 (fs hp2 (fs hnil tk0)))) ?_);try with_reducible exact tt
 ·by_cases h0:e=0
  ·subst h0
   rw [if_neg (by simp),if_pos rfl] at hR
   subst hR
   have h4:(spN L).length%4=0:=by rw [o_12a];omega
   have h5:posN (s1,s2,s3) L<(spN (touN L (s1,s2,s3))).length/4:=hT
   have ew:IntKind.i64.wrap ((getN (s1,s2,s3) L:Int)+(w:Int))=((getN (s1,s2,s3) L+w:Nat):Int):=by rw [w64 (by omega) (by omega)];omega
   refine CallS.g [9,6,7,8] (hr) (R1 (fs e1 (fs e2 (fs e3 (fs e4 e5)))) ?_);try with_reducible exact tt
   refine AW.cond rfl (fun hh=>?_) (fun hh=>?_)
   ·simp at hh
   repeat (first | refine AW.seq ?_ | refine AW.block ?_)
   refine AW.reg mix ?_
   (simp -implicitDefEqProofs;try simp (disch:=omega) only [w64,wu64])
   try refine need.of (by first | omega | kernel_rfl) ?_
   refine AW.cond rfl (fun hh=>?_) (fun hh=>?_)
   rotate_left
   ·simp at hh
   refine regW (s1:=s1) (s2:=s2) (s3:=s3) (Lm:=L) (w:=w) rfl rfl rfl rfl (by decide) (by decide) rfl rfl rfl (by omega) fun T' hT'=>?_
   simp [blockQ,retG]
  ·rw [if_neg (by simp [he]),if_neg h0] at hR
   subst hR
   have he1:(e==8)=false:=by simpa using he
   have he2:(e==0)=false:=by simpa using h0
   have ew:IntKind.i64.wrap ((op:Int)+(w:Int))=((op+w:Nat):Int):=by rw [w64 (by omega) (by omega)];omega
   refine CallS.g [9,6,7,8] (hr) (R1 (fs e1 (fs e2 (fs e3 (fs e4 (fs e5 (fs he (fs he1 (fs h0 he2)))))))) ?_);try with_reducible exact tt
   refine AW.cond rfl (fun hh=>?_) (fun hh=>?_)
   ·simp [he] at hh
   repeat (first | refine AW.seq ?_ | refine AW.block ?_)
   refine AW.reg mix ?_
   (simp -implicitDefEqProofs [he,he1,h0,he2];try simp (disch:=omega) only [w64,wu64])
   try refine need.of (by first | omega | kernel_rfl) ?_
   refine AW.cond rfl (fun hh=>?_) (fun hh=>?_)
   ·simp [h0] at hh
   refine A10 ew ?_;try with_reducible exact tt
theorem o_146 {A:FuncId} {T6 T7 T8:TypeId} {c6 c7 c8:List D} {ask:List Bool→St×Int} (h:AskOK A T6 T7 T8 c6 c7 c8 ask):∀(d:Nat) (pre:List Bool) (X:Wm×Nat),pre.length+d=11→X.2+2^d≤2^40→(∀s,getN s X.1+2^d≤2^40) →
  Eqn Tryz.prog o_bp [.d (.sl pre.length (pre.map .bool)),.p 0 0,.p 1 0,.p 2 0,.p 3 0,.p 4 0] (wtH A T6 T7 T8 c6 c7 c8 X) (.tup []) (wtH A T6 T7 T8 c6 c7 c8 (walkN ask d pre X))
 | 0,pre,X,h1,h2,h3=>o_145 h 0 (fun h=>absurd rfl h) pre X h1 h2 h3
 | d+1,pre,X,h1,h2,h3=>o_145 h (d+1) (fun _=>o_146 h d) pre X h1 h2 h3
def wtO (X:Wm):Ob:=⟨1000386,(spN X).map .d⟩
set_option maxHeartbeats 4000000 in
theorem o_147 {A:FuncId} {T6 T7 T8:TypeId} {c6 c7 c8:List D} {ask:List Bool→St×Int} (h:AskOK A T6 T7 T8 c6 c7 c8 ask):Eqn Tryz.prog o_8v [.d (.int .i64 11),.fn (.func A) [.p 0 0,.p 1 0,.p 2 0]] [⟨T6,c6.map .d⟩,⟨T7,c7.map .d⟩,⟨T8,c8.map .d⟩] (.tup [.mp 3,.d (.int .i64 (walkN ask 11 [] ([],0)).2)]) [⟨T6,c6.map .d⟩,⟨T7,c7.map .d⟩,⟨T8,c8.map .d⟩,wtO (walkN ask 11 [] ([],0)).1]:=by
 have g6:=h.t6
 have g7:=h.t7
 have g8:=h.t8
 have hw:=o_146 h 11 [] ([],0) (by simp) (by decide) (fun s=>by simp [getN])
 refine Eqn.gen [0,1,2,7] o_8x (by simp) (by simp) (by rfl) (by decide) (by simp [wtO]) (by simp [wtO,h.t6,h.t7,h.t8]) ?_
 have hsn:spN []=[]:=rfl
 refine cc (c':=?z247) ?_ ?_
 case refine_1=>cbv<;>exact rfl
 try simp only [wtH,wtO,List.length_nil,List.map_nil,hsn] at hw ⊢
 generalize walkN ask 11 [] ([],0)=Y at *
 refine A00 ?_;try with_reducible exact tt
 refine CallS.gen [4,3,8,5,6,7,0,1,2] hw (by decide) (by first | ((repeat (first | exact o_5z | refine o_60 rfl rfl ?_));done) | (simp;done)) (by simp) (Subs.cons Sub1.nil (Subs.refl _)) (R0 ?_);try with_reducible exact tt
 trace_state
end
section
open Go.RowKit
def askA (k a b n:Nat) (s:St) (cs:List Bool):St×Int :=
 let R:=addRM cs k a b n s.1 s.2.1 s.2.2 0 false
 (if R.e=0 then (R.y,R.t,R.f) else s,R.e)
theorem o_148 {k a b:Nat} (hg:GoodR k a b) (s:St) (hw:WellR k a b s.1 s.2.1 s.2.2) (n:Nat) (hn:n≤100):AskOK o_8y 62 64 3 [.int .i64 k,.int .i64 a,.int .i64 b] (stD s) [.int .i64 n] (askA k a b n s) where
 t6:=by decide
 t7:=by decide
 t8:=by decide
 run:=fun cs hcs=>by
  obtain ⟨y,t,f⟩:=s
  obtain ⟨R,hR⟩:∃R,R=addRM cs k a b n y t f 0 false:=⟨_,rfl⟩
  have hr:=o_ws cs k a b y t f n 0 false hg hw (by omega) (by omega) (by omega) R hR
  have e:askA k a b n (y,t,f) cs=(if R.e=0 then (R.y,R.t,R.f) else (y,t,f),R.e):=by unfold askA;rw [hR]
  have e2:stR R y t f = .agg (stD (if R.e=0 then (R.y,R.t,R.f) else (y,t,f))):=by
   unfold stR tsD stD
   split<;>rfl
  rw [e]
  rw [e2] at hr
  simp only
  generalize (if R.e=0 then (R.y,R.t,R.f) else (y,t,f):St)=Z at *
  obtain ⟨z1,z2,z3⟩:=Z
  refine ⟨R.p,R.d,?_⟩
  refine Eqn.gen [0,1,2,3] o_90 (by simp) (by simp) (by rfl) (by decide) (by simp [tapeO]) (by simp [tapeO]) ?_
  refine cc (c':=?z248) ?_ ?_
  case refine_1=>cbv<;>exact rfl
  try simp only [parD,tsD,stD] at hr ⊢
  refine A00 ?_;try with_reducible exact tt
  refine CallS.o1 0 (hr) (R0 ?_);try with_reducible exact tt
end
section
open Go.RowKit
def Gr (D B:Nat) (q:Rat):Prop:=∃z:Nat,q*(D:Rat)=(z:Rat)∧z≤B*D
theorem o_149 {D:Nat} (h:0<D):(D:Rat)≠0:=by
 intro e
 have:D=0:=by exact_mod_cast e
 omega
theorem Gr.rs {D B N:Nat} {q:Rat} (hD:0<D) (hB:1≤B) (h:Gr D B q) (hN:size (B*D)≤N):RS q N:=by
 obtain ⟨z,h1,h2⟩:=h
 have hd:=o_149 hD
 have e:q=mkRat (z:Int) D:=by
  rw [Rat.mkRat_eq_div]
  have:((z:Int):Rat)=(z:Rat):=rfl
  rw [this,←h1]
  rw [Rat.mul_div_cancel hd]
 rw [e]
 refine RS.mk' hD ?_ ?_
 ·exact Nat.le_trans (o_o0 (by simpa using h2)) hN
 ·exact Nat.le_trans (o_o0 (by exact Nat.le_mul_of_pos_left D hB)) hN
theorem Gr.zero (D B:Nat):Gr D B 0:=⟨0,by grind,Nat.zero_le _⟩
theorem Gr.add {D B C:Nat} {x y:Rat} (hx:Gr D B x) (hy:Gr D C y):Gr D (B+C) (x+y):=by
 obtain ⟨z,h1,h2⟩:=hx
 obtain ⟨w,h3,h4⟩:=hy
 refine ⟨z+w,?_,by rw [Nat.add_mul];omega⟩
 have:((z+w:Nat):Rat)=(z:Rat)+(w:Rat):=by simp
 rw [this,←h1,←h3];grind
theorem Gr.mul {D E B C:Nat} {x y:Rat} (hx:Gr D B x) (hy:Gr E C y):Gr (D*E) (B*C) (x*y):=by
 obtain ⟨z,h1,h2⟩:=hx
 obtain ⟨w,h3,h4⟩:=hy
 refine ⟨z*w,?_,?_⟩
 ·have e1:((z*w:Nat):Rat)=(z:Rat)*(w:Rat):=by simp
  have e2:((D*E:Nat):Rat)=(D:Rat)*(E:Rat):=by simp
  rw [e1,e2,←h1,←h3];grind
 ·have:=Nat.mul_le_mul h2 h4
  refine Nat.le_trans this (Nat.le_of_eq ?_)
  rw [Nat.mul_mul_mul_comm]
theorem Gr.le {D B C:Nat} {x:Rat} (h:Gr D B x) (hbc:B≤C):Gr D C x:=by
 obtain ⟨z,h1,h2⟩:=h
 exact ⟨z,h1,Nat.le_trans h2 (Nat.mul_le_mul_right _ hbc)⟩
theorem Gr.one (D:Nat):Gr D 1 1:=⟨D,by grind,by omega⟩
theorem Gr.sub1 {D:Nat} {x:Rat} (h:Gr D 1 x):Gr D 1 (1-x):=by
 obtain ⟨z,h1,h2⟩:=h
 refine ⟨D-z,?_,by omega⟩
 have e1:((D-z:Nat):Rat)=(D:Rat)-(z:Rat):=by
  have:(D:Rat)=((D-z+z:Nat):Rat):=by rw [Nat.sub_add_cancel (by omega)]
  rw [this]
  have e:((D-z+z:Nat):Rat)=((D-z:Nat):Rat)+(z:Rat):=by simp
  rw [e];grind
 rw [e1,←h1];grind
theorem o_14a {k a w:Nat} (h:GoodS k a w):∃G:Nat,0<G∧G≤2^63∧∀x,x≤15→Gr G 1 (chP k a x):=by
 by_cases hk:k=1
 ·subst hk
  have ha:1≤a∧a≤4:=by
   rcases h.1 with ⟨-,h1,h2⟩ | ⟨h1,-⟩ | ⟨h1,-⟩
   ·exact ⟨h1,h2⟩
   ·omega
   ·omega
  refine ⟨(a+1)^15,Nat.pow_pos (by omega),Nat.le_trans (Nat.pow_le_pow_left (show a+1≤5 by omega) 15) (by decide),fun x hx=>?_⟩
  rw [chP,if_pos rfl]
  unfold chM
  have key:∀n,n≤15→∃z:Nat,mkRat (a:Int) (a+1)^n*(((a+1)^n:Nat):Rat)=(z:Rat)∧z≤(a+1)^n:=by
   intro n
   induction n with
   | zero=>intro _;exact ⟨1,by simp,by simp⟩
   | succ n ih =>
    intro hn
    obtain ⟨z,h1,h2⟩:=ih (by omega)
    refine ⟨z*a,?_,by rw [Nat.pow_succ];exact Nat.mul_le_mul h2 (by omega)⟩
    have e1:mkRat (a:Int) (a+1)*((a+1:Nat):Rat)=(a:Rat):=by
     rw [Rat.mkRat_eq_div]
     have:((a:Int):Rat)=(a:Rat):=rfl
     rw [this]
     exact Rat.div_mul_cancel (o_149 (by omega))
    have e2:(((a+1)^(n+1):Nat):Rat)=(((a+1)^n:Nat):Rat)*((a+1:Nat):Rat):=by rw [Nat.pow_succ];simp
    have e3:((z*a:Nat):Rat)=(z:Rat)*(a:Rat):=by simp
    rw [Rat.pow_succ,e2,e3,←h1,←e1];grind
  obtain ⟨z,h1,h2⟩:=key x hx
  refine ⟨z*(a+1)^(15-x),?_,?_⟩
  ·have e1:(((a+1)^15:Nat):Rat)=(((a+1)^x:Nat):Rat)*(((a+1)^(15-x):Nat):Rat):=by
    have:(a+1)^15=(a+1)^x*(a+1)^(15-x):=by rw [←Nat.pow_add];congr 1;omega
    rw [this];simp
   have e2:((z*(a+1)^(15-x):Nat):Rat)=(z:Rat)*(((a+1)^(15-x):Nat):Rat):=by simp
   rw [e1,e2,←h1];grind
  ·rw [Nat.one_mul,show (a+1)^15=(a+1)^x*(a+1)^(15-x) by rw [←Nat.pow_add];congr 1;omega]
   exact Nat.mul_le_mul_right _ h2
 ·refine ⟨2^63,by decide,Nat.le_refl _,fun x hx=>?_⟩
  rw [chP,if_neg hk]
  have he:=o_su h hk hx
  generalize expOf k a x=e at *
  refine ⟨2^(63-e),?_,by rw [Nat.one_mul];exact Nat.pow_le_pow_right (by decide) (by omega)⟩
  have e1:mkRat 1 (2^e)*((2^e:Nat):Rat)=1:=by
   rw [Rat.mkRat_eq_div]
   have:=Rat.div_mul_cancel (a:=((1:Int):Rat)) (o_149 (Nat.two_pow_pos e))
   simpa using this
  have e2:((2^63:Nat):Rat)=((2^e:Nat):Rat)*((2^(63-e):Nat):Rat):=by
   have:2^63=2^e*2^(63-e):=by rw [←Nat.pow_add];congr 1;omega
   rw [this];simp
  rw [e2,←Rat.mul_assoc,e1];grind
end
section
open Go.RowKit
theorem o_14b (q:Rat) (out K:Sp) (j:Nat) (h:j<K.length):innQ q out (K.take (j+1))=addQ (innQ q out (K.take j)) K[j].1 (q*K[j].2):=by
 unfold innQ;rw [List.take_add_one,List.getElem?_eq_getElem h,Option.toList,List.foldl_append];rfl
def outQ (next:St→Sp) (A:Sp) (i:Nat):Sp:=(A.take i).foldl (fun out a=>innQ a.2 out (atQ (next a.1))) []
theorem o_14c (next:St→Sp) (A:Sp) (i:Nat) (h:i<A.length):outQ next A (i+1)=innQ A[i].2 (outQ next A i) (atQ (next A[i].1)):=by
 unfold outQ;rw [List.take_add_one,List.getElem?_eq_getElem h,Option.toList,List.foldl_append];rfl
theorem o_14d (next:St→Sp) (l:Sp):outQ next (atQ l) (atQ l).length=timesQ next l:=by unfold outQ timesQ;rw [List.take_length]
theorem o_14e {D B:Nat} {l:Sp} (h:∀p∈l,Gr D B p.2) (s:St):Gr D B (getQ l s):=by
 induction l with
 | nil=>exact Gr.zero D B
 | cons p l ih =>
  unfold getQ
  split
  ·exact h p (by simp)
  ·exact ih fun q hq=>h q (by simp [hq])
theorem o_14f {D B:Nat} {q:Rat} {out:Sp} {C:Nat} (ho:∀p∈out,Gr D C p.2):∀(K:Sp),(∀p∈K,Gr D B (q*p.2))→∀p∈innQ q out K,Gr D (C+K.length*B) p.2:=by
 have key:∀(K out:Sp) (C:Nat),(∀p∈out,Gr D C p.2)→(∀p∈K,Gr D B (q*p.2))→∀p∈innQ q out K,Gr D (C+K.length*B) p.2:=by
  intro K
  induction K with
  | nil=>intro out C ho _ p hp;simpa [innQ] using ho p hp
  | cons b K ih =>
   intro out C ho hK p hp
   have h1:∀p∈addQ out b.1 (q*b.2),Gr D (C+B) p.2:=by
    intro p hp
    rcases o_10u hp with hp | rfl
    ·exact (ho p hp).le (by omega)
    ·exact (o_14e ho _).add (hK b (by simp))
   have:=ih (addQ out b.1 (q*b.2)) (C+B) h1 (fun p hp=>hK p (by simp [hp])) p hp
   refine this.le (Nat.le_of_eq ?_)
   rw [List.length_cons,Nat.add_mul,Nat.one_mul];omega
 exact fun K=>key K out C ho
theorem o_14g {D E B J:Nat} {next:St→Sp} {A:Sp} (hA:∀p∈A,Gr D B p.2) (hN:∀p∈A,(∀r∈next p.1,Gr E 1 r.2)∧(atQ (next p.1)).length≤J):∀i,i≤A.length→∀p∈outQ next A i,Gr (D*E) (i*J*B) p.2
 | 0,_=>fun p hp=>by simp [outQ] at hp
 | i+1,hi=>by
  have hi':i<A.length:=hi
  have ih:=o_14g hA hN i (by omega)
  rw [o_14c next A i hi']
  obtain ⟨h1,h2⟩:=hN A[i] (List.getElem_mem hi')
  have hm:∀p∈atQ (next A[i].1),Gr (D*E) B (A[i].2*p.2):=fun p hp=>by
   have:=(hA A[i] (List.getElem_mem hi')).mul (h1 p (List.mem_filter.1 ((o_10j _).mem_iff.1 hp)).1)
   rwa [Nat.mul_one] at this
  intro p hp
  refine (o_14f ih _ hm p hp).le ?_
  have:=Nat.mul_le_mul_right B h2
  rw [Nat.add_mul i 1 J,Nat.one_mul,Nat.add_mul];omega
theorem nz_ne {top:Nat} {c:Nat→Rat} (s:St):nzQ (stepQ top c s)≠[]:=by
 intro h
 have h1:=(o_10t (fun _=>1) top c s).2
 have h2:exQ (fun _=>(1:Rat)) (stepQ top c s)=1:=by
  rw [h1];split
  ·rfl
  ·grind
 have h3:=ex_nz (fun _=>(1:Rat)) (stepQ top c s)
 rw [show (stepQ top c s).filter (fun p=>decide (p.2≠0))=nzQ (stepQ top c s) from rfl,h] at h3
 rw [h2] at h3
 exact absurd h3 (by decide)
theorem o_14h (l:Sp) (s:St) (q:Rat):(setQ l s q).length≤l.length+1:=by
 induction l with
 | nil=>simp [setQ]
 | cons p l ih=>unfold setQ;split<;>simp<;>omega
theorem o_14i (top:Nat) (c:Nat→Rat) (s:St):(stepQ top c s).length≤2:=by
 unfold stepQ
 split
 ·simp
 ·unfold eitQ addQ
  have:=o_14h (setQ [] (s.1+1,s.2) (getQ [] (s.1+1,s.2)+c s.1)) s (getQ (setQ [] (s.1+1,s.2) (getQ [] (s.1+1,s.2)+c s.1)) s+(1-c s.1))
  have h2:=o_14h [] (s.1+1,s.2) (getQ [] (s.1+1,s.2)+c s.1)
  simp at h2
  omega
theorem o_14j (l:Sp):(atQ l).length≤l.length:=by
 rw [(o_10j l).length_eq];exact List.length_filter_le _ _
theorem o_14k {G top:Nat} {c:Nat→Rat} (hc:∀x,x<top→Gr G 1 (c x)) (s:St) (hs:s.1≤top):∀p∈stepQ top c s,Gr G 1 p.2:=by
 unfold stepQ
 split
 ·intro p hp;simp at hp;subst hp;exact Gr.one G
 ·rename_i e
  have h1:=hc s.1 (by omega)
  have hne:¬s=(s.1+1,s.2):=fun h=>by have:=congrArg Prod.fst h;simp at this
  intro p hp
  unfold eitQ at hp
  rcases o_10u hp with hp | rfl
  ·rcases o_10u hp with hp | rfl
   ·cases hp
   ·have:=(Gr.zero G 0).add h1
    simpa [getQ] using this
  ·have h2:getQ (addQ [] (s.1+1,s.2) (c s.1)) s=0:=by unfold addQ;rw [o_104,if_neg hne];rfl
   show Gr G 1 (getQ (addQ [] (s.1+1,s.2) (c s.1)) s+(1-c s.1))
   rw [h2]
   have:=(Gr.zero G 0).add h1.sub1
   simpa using this
end
section
open Go.RowKit
def PO (k a w:Nat):Ob:=⟨62,[.d (.int .i64 k),.d (.int .i64 a),.d (.int .i64 w)]⟩
theorem o_14l (A:Sp) (i:Nat) (hi:i<A.length):∃(s1 s2:Nat) (s3:Bool) (q:Rat) (N1 N2 N3:D),A[i]=((s1,s2,s3),q)∧rcD q=[N1,N2,N3]∧((spD rcD A).drop (i*6)).take 6=[.int .i64 s1,.int .i64 s2,.bool s3,N1,N2,N3]:=by
 obtain ⟨⟨⟨s1,s2,s3⟩,q⟩,hp⟩:∃p,A[i]=p:=⟨_,rfl⟩
 have h6:=o_6r (n:=6) (f:=atomC) o_138 A i hi
 rw [hp,←o_139] at h6
 exact ⟨s1,s2,s3,q,_,_,_,hp,rfl,by rw [h6];rfl⟩
set_option maxHeartbeats 4000000 in
theorem o_14m {k a w:Nat} (h:GoodS k a w) (l:Sp) (G D B:Nat) (hu:Uq l) (hok:oklQ (topC w) l) (hnz:nzQ l≠[]) (h12:(nzQ l).length≤40) (hl:l.length≤1000000) (hD:0<D) (hB:1≤B) (hgl:∀p∈l,Gr D B p.2) (hG:0<G) (hc:∀x,x≤15→Gr G 1 (chP k a x)) (hsz:size (80*B*(D*G))≤100000) :
  Eqn Tryz.prog o_ay [.mp 0,.fn (.func o_b1) [.p 1 0]] [spO l,PO k a w] (.mp 2) [spO l,PO k a w,spO (timesQ (stepQ (topC w) (chP k a)) l)]:=by
 refine Eqn.gen [0,1,2] o_b0 (by simp) (by simp) (by rfl) (by decide) (by simp) (by simp [spO,PO]) ?_
 have h15:topC w≤15:=by have:=Nat.pow_le_pow_right (n:=2) (by omega) h.2.2;unfold topC;omega
 obtain ⟨next,hnext⟩:∃f,f=stepQ (topC w) (chP k a):=⟨_,rfl⟩
 obtain ⟨A,hA⟩:∃A,A=atQ l:=⟨_,rfl⟩
 have hAl:A.length≤40:=by rw [hA,(o_10j l).length_eq];exact h12
 have hA0:1≤A.length:=by
  rw [hA,(o_10j l).length_eq]
  rcases Nat.eq_zero_or_pos (nzQ l).length with e | e
  ·exact absurd (List.eq_nil_of_length_eq_zero e) hnz
  ·exact e
 have hAm:∀p∈A,p∈l:=fun p hp=>(List.mem_filter.1 ((o_10j l).mem_iff.1 (hA▸hp))).1
 have hDG:0<D*G:=Nat.mul_pos hD hG
 have hBD:size (B*D)≤100000:=by
  refine Nat.le_trans (o_o0 ?_) hsz
  calc B*D=B*D*1:=(Nat.mul_one _).symm
   _≤B*D*(80*G):=Nat.mul_le_mul_left _ (by omega)
   _=80*B*(D*G):=by simp [Nat.mul_comm,Nat.mul_left_comm,Nat.mul_assoc]
 have hat:=o_142 l hu hnz h12 hl (fun p hp=>(hgl p hp).rs hD hB hBD)
 have hGs:size (1*G)≤100000:=by
  refine Nat.le_trans (o_o0 ?_) hsz
  calc 1*G≤(80*B*D)*G:=Nat.mul_le_mul_right _ (Nat.mul_pos (by omega) hD)
   _=80*B*(D*G):=by rw [Nat.mul_assoc]
 have hgn:∀s:St,s.1≤topC w→∀p∈next s,Gr G 1 p.2:=fun s hs=>by rw [hnext];exact o_14k (fun x hx=>hc x (by omega)) s hs
 have hnl:∀s,(atQ (next s)).length≤2:=fun s=>Nat.le_trans (o_14j _) (by rw [hnext];exact o_14i _ _ _)
 have hout:=o_14g (D:=D) (E:=G) (B:=B) (J:=2) (next:=next) (A:=A) (fun p hp=>hgl p (hAm p hp)) (fun p hp=>⟨hgn p.1 (hok p (hAm p hp)).1.1,hnl p.1⟩)
 have hon:=o_14c next A
 have hoa:outQ next A A.length=timesQ next l:=by rw [hA];exact o_14d next l
 have hADl:=o_102 rcD (fun _=>rfl) A
 have hget:=o_14l A
 rw [←hnext,←hoa]
 rw [←hA] at hat
 have hcl:∀s:St,s.1≤topC w→Eqn Tryz.prog o_b1 [.d (.agg (stD s)),.p 0 0] [PO k a w] (.mp 1) [PO k a w,spO (next s)]∧Eqn Tryz.prog o_am [.mp 0] [spO (next s)] (.d (.sl (atQ (next s)).length (spD rcD (atQ (next s))))) [spO (next s)]:=fun s hs=>by
  refine ⟨by rw [hnext];exact o_137 h s hs,o_142 _ (by rw [hnext];exact (o_10t (fun _=>0) _ _ s).1) (by rw [hnext];exact nz_ne s) ?_ ?_ fun p hp=>(hgn s hs p hp).rs hG (Nat.le_refl _) hGs⟩
  ·exact Nat.le_trans (List.length_filter_le _ _) (Nat.le_trans (by rw [hnext];exact o_14i _ _ _) (by omega))
  ·exact Nat.le_trans (by rw [hnext];exact o_14i _ _ _) (by omega)
 have hAok:∀p∈A,p.1.1≤topC w:=fun p hp=>(hok p (hAm p hp)).1.1
 clear hnext hA hoa hnz
 refine cc (c':=?z249) ?_ ?_
 case refine_1=>cbv<;>exact rfl
 try simp only [spO,PO] at hat hcl ⊢
 generalize hLl:spD rcD l=LL at *
 refine A00 ?_;try with_reducible exact tt
 refine CallS.g [0] (hat) (R0 ?_);try with_reducible exact tt
 refine AW.loopG (α:=Nat) (fun i=>setS (List.replicate 40 .junk) [(1,.fn (.func o_b1) [.p 1 0]),(5,.mp 2),(12,.d (.sl A.length (spD rcD A))),(13,.d (.int .i64 A.length)),(14,.d (.int .i64 (i:Nat)))]) (fun i=>[some ⟨1000391,LL.map .d⟩,some ⟨62,[.d (.int .i64 k),.d (.int .i64 a),.d (.int .i64 w)]⟩,some ⟨1000391,(spD rcD (outQ next A i)).map .d⟩]) (fun i=>i≤A.length) (fun i=>A.length-i) 0 ?_ (Nat.zero_le _) ?_ ?_ ?_
 ·intro i hi;simp
 ·simp
 ·simp [outQ,spD]
 rintro i hi
 simp
 by_cases hi2:i<A.length
 ·have hi3:(i:Int)<A.length:=by omega
  obtain ⟨s1,s2,s3,q,N1,N2,N3,hp,hN,hg⟩:=hget i hi2
  have hsk:=hAok _ (List.getElem_mem hi2)
  rw [hp] at hsk
  obtain ⟨hof,han⟩:=hcl (s1,s2,s3) hsk
  have hgq:Gr D B q:=by have:=hgl _ (hAm _ (List.getElem_mem hi2));rw [hp] at this;exact this
  have hon1:=hon i hi2
  rw [hp] at hon1
  simp only at hon1
  have hgo:=hout i hi
  have hn2:=hnl (s1,s2,s3)
  have hgn2:=hgn (s1,s2,s3) hsk
  obtain ⟨C,hC⟩:∃C,C=atQ (next (s1,s2,s3)):=⟨_,rfl⟩
  have hCm:∀p∈C,Gr G 1 p.2:=fun p hp=>hgn2 p (List.mem_filter.1 ((o_10j _).mem_iff.1 (hC▸hp))).1
  rw [←hC] at hon1 han hn2
  have hCl:=o_102 rcD (fun _=>rfl) C
  have hgetC:=o_14l C
  have ewi:IntKind.i64.wrap ((i:Int)+1)=((i+1:Nat):Int):=by rw [w64 (by omega) (by omega)];omega
  simp only [stD] at hof han
  generalize hNL:spD rcD (next (s1,s2,s3))=NL at *
  have hb6:i*6+6≤A.length*6:=by omega
  have hb7:i*6<A.length*6:=by omega
  refine A10 (fs hi2 (fs hi3 (fs hg (fs hADl (fs hb6 hb7))))) ?_;try with_reducible exact tt
  refine CallS.g [1] (hof) (R0 ?_);try with_reducible exact tt
  refine CallS.g [4] (han) (R0 ?_);try with_reducible exact tt
  refine AW.loopG (α:=Nat) (fun j=>setS (List.replicate 40 .junk) [(1,.fn (.func o_b1) [.p 1 0]),(5,.mp 2),(7,.p 3 0),(12,.d (.sl A.length (spD rcD A))),(13,.d (.int .i64 A.length)),(14,.d (.int .i64 (i:Nat))),(22,.d (.sl C.length (spD rcD C))),(23,.d (.int .i64 C.length)),(24,.d (.int .i64 (j:Nat)))]) (fun j=>[some ⟨1000391,LL.map .d⟩,some ⟨62,[.d (.int .i64 k),.d (.int .i64 a),.d (.int .i64 w)]⟩,some ⟨1000391,(spD rcD (innQ q (outQ next A i) (C.take j))).map .d⟩,some ⟨75,[.d (.int .i64 s1),.d (.int .i64 s2),.d (.bool s3),.d N1,.d N2,.d N3]⟩]) (fun j=>j≤C.length) (fun j=>C.length-j) 0 ?_ (Nat.zero_le _) ?_ ?_ ?_
  ·intro j hj;simp
  ·simp
  ·simp [innQ]
  rintro j hj
  simp
  by_cases hj2:j<C.length
  ·have hj3:(j:Int)<C.length:=by omega
   obtain ⟨t1,t2,t3,r,M1,M2,M3,hpc,hM,hgc⟩:=hgetC j hj2
   have hinn:=o_14b q (outQ next A i) C j hj2
   have hgr:=hCm _ (List.getElem_mem hj2)
   rw [hpc] at hinn hgr
   simp only at hinn hgr
   have hqr:=hgq.mul hgr
   have hgi:=o_14f (q:=q) (B:=B) hgo (C.take j) (fun p hp=>by
    have:=hgq.mul (hCm p (List.mem_of_mem_take hp))
    rwa [Nat.mul_one] at this)
   have hget2:=(o_14e hgi (t1,t2,t3)).le (C:=80*B) (by
    have e1:(C.take j).length≤2:=by rw [List.length_take];omega
    have e2:=Nat.mul_le_mul_right B e1
    have e3:i*2*B≤78*B:=Nat.mul_le_mul_right _ (by omega)
    omega)
   have hq1:=hgq.rs hD hB hBD
   have hr1:=hgr.rs hG (Nat.le_refl _) hGs
   have hmul:=o_v7 q r hq1 hr1
   have hadd:=o_11v (innQ q (outQ next A i) (C.take j)) (t1,t2,t3) (q*r) (hget2.rs hDG (by omega) hsz) ((hqr.le (C:=80*B) (by omega)).rs hDG (by omega) hsz)
   have ewj:IntKind.i64.wrap ((j:Int)+1)=((j+1:Nat):Int):=by rw [w64 (by omega) (by omega)];omega
   have hc6:j*6+6≤C.length*6:=by omega
   have hc7:j*6<C.length*6:=by omega
   rw [←hinn] at hadd
   rw [rD_rc q,rD_rc r,rD_rc (q*r),hN,hM] at hmul
   rw [rD_rc (q*r)] at hadd
   obtain ⟨P1,P2,P3,hP⟩:∃P1 P2 P3,rcD (q*r)=[P1,P2,P3]:=⟨_,_,_,rfl⟩
   rw [hP] at hmul hadd
   simp only [spO,stD] at hadd
   refine A10 (fs hj2 (fs hj3 (fs hgc (fs hCl (fs hc6 hc7))))) ?_;try with_reducible exact tt
   refine CallS.pu (hmul) (R0 ?_);try with_reducible exact tt
   refine CallS.g [2] (hadd) (R0 ?_);try with_reducible exact tt
   refine A10 ewj ?_;try with_reducible exact tt
   refine ⟨j+1,2,2,⟨by omega,by omega,by omega,by omega⟩,by omega,by omega,?_,?_⟩
   ·simp [swT,swH,sw,Ob.sw,V.ren,V.rens]
   ·simp [swT,swH,sw,Ob.sw,V.ren,V.rens]
  ·have h2:j=C.length:=by omega
   subst h2
   rw [List.take_length,←hon1]
   refine A00 ?_;try with_reducible exact tt
   refine A10 ewi ?_;try with_reducible exact tt
   refine ⟨i+1,2,2,⟨by omega,by omega,by omega,by omega⟩,by omega,by omega,?_,?_⟩
   ·simp [swT,swH,sw,Ob.sw,V.ren,V.rens]
   ·simp [swT,swH,sw,Ob.sw,V.ren,V.rens]
 ·have h2:i=A.length:=by omega
  subst h2
  refine A00 ?_;try with_reducible exact tt
end
section
open Go.RowKit
theorem o_14n {k a w:Nat} (h:GoodR k a w) (s:St) (hw:WellR k a w s.1 s.2.1 s.2.2):Eqn Tryz.prog o_et [.d (.agg (stD s)),.p 0 0] [PO k a w] (.d (.bool false)) [PO k a w]:=by
 refine Eqn.gen [0] o_ev (by simp) (by simp) (by rfl) (by decide) (by simp) (by simp [PO]) ?_
 have hwl:=o_wo h s.1 s.2.1 s.2.2
 rw [o_wn.2 hw] at hwl
 refine cc (c':=?z250) ?_ ?_
 case refine_1=>cbv<;>exact rfl
 try simp only [PO,stD,parD,tsD] at hwl ⊢
 refine A00 ?_;try with_reducible exact tt
 refine CallS.pu (hwl) (R0 ?_);try with_reducible exact tt
theorem o_14o {k a w:Nat} (h:GoodR k a w) (s:St) (hw:WellR k a w s.1 s.2.1 s.2.2):Eqn Tryz.prog o_hh [.d (.sl 1 (stD s)),.fn (.func o_et) [.p 0 0]] [PO k a w] (.d (.int .i64 (-1))) [PO k a w]:=by
 refine Eqn.gen [0] o_hj (by simp) (by simp) (by rfl) (by decide) (by simp) (by simp [PO]) ?_
 have hw1:=o_14n h s hw
 refine cc (c':=?z251) ?_ ?_
 case refine_1=>cbv<;>exact rfl
 try simp only [PO,stD] at hw1 ⊢
 refine A00 ?_;try with_reducible exact tt
 refine AW.rounds 2 ?_
 refine A00 ?_;try with_reducible exact tt
 refine CallS.g [0] (hw1) (R0 ?_);try with_reducible exact tt
 refine A00 ?_;try with_reducible exact tt
theorem o_14p {k a w:Nat} (h:GoodR k a w) (s:St) (hw:WellR k a w s.1 s.2.1 s.2.2):Eqn Tryz.prog o_eq [.d (.sl 1 (stD s)),.fn (.func o_et) [.p 0 0]] [PO k a w] (.d (.bool false)) [PO k a w]:=by
 refine Eqn.gen [0] o_es (by simp) (by simp) (by rfl) (by decide) (by simp) (by simp [PO]) ?_
 have hi:=o_14o h s hw
 refine cc (c':=?z252) ?_ ?_
 case refine_1=>cbv<;>exact rfl
 try simp only [PO,stD] at hi ⊢
 refine A00 ?_;try with_reducible exact tt
 refine CallS.g [0] (hi) (R0 ?_);try with_reducible exact tt
theorem o_14q {k a w:Nat} (h:GoodR k a w) (s:St) (hw:WellR k a w s.1 s.2.1 s.2.2):Eqn Tryz.prog o_ap [.d (parD k a w),.d (.sl 1 (stD s))] [] (.d (.int .i64 0)) []:=by
 refine Eqn.pure o_ar Plain.ok ?_
 have hc:=o_wm h
 have hi:=o_14p h s hw
 refine cc (c':=?z253) ?_ ?_
 case refine_1=>cbv<;>exact rfl
 try simp only [PO,stD,parD] at hc hi ⊢
 refine A00 ?_;try with_reducible exact tt
 refine CallS.pu (hc) (R0 ?_);try with_reducible exact tt
 refine A00 ?_;try with_reducible exact tt
 refine CallS.g [0] (hi) (R0 ?_);try with_reducible exact tt
 refine A00 ?_;try with_reducible exact tt
theorem o_14r {k a w:Nat} (hk:k≠4) (hw:w≤10):Eqn Tryz.prog o_as [.d (parD k a w)] [] (.d (.int .i64 (2^w:Nat))) []:=by
 refine Eqn.pure o_au Plain.ok ?_
 have hk':¬(k:Int)=4:=by omega
 have e0:(2:Int)^w=(2^w:Nat):=by rw [Int.natCast_pow];rfl
 have h2:2^w≤1024:=Nat.pow_le_pow_right (n:=2) (by omega) hw
 refine cc (c':=?z254) ?_ ?_
 case refine_1=>cbv<;>exact rfl
 try simp only [parD]
 generalize 2^w=S at *
 have e1:IntKind.i64.wrap (S:Int)=S:=w64 (by omega) (by omega)
 refine A10 (fs hk (fs hk' (fs e0 e1))) ?_;try with_reducible exact tt
end
section
open Go.RowKit
def kyQ (P:St→Prop) (l:Sp):Prop:=∀p∈l,P p.1
theorem o_14s {P:St→Prop} {q:Rat}:∀{l out:Sp},kyQ P out→kyQ P l→kyQ P (innQ q out l)
 | [],out,h,_=>h
 | b::l,out,h,hl=>o_14s (out:=addQ out b.1 (q*b.2)) (l:=l) (fun p hp=>by
   rcases o_10u hp with hp | rfl
   ·exact h p hp
   ·exact hl b (by simp)) fun p hp=>hl p (by simp [hp])
theorem ky_at {P:St→Prop} {l:Sp} (h:kyQ P l):kyQ P (atQ l):=fun p hp=>h p (List.mem_filter.1 ((o_10j l).mem_iff.1 hp)).1
theorem o_14t {P P':St→Prop} {next:St→Sp} (hn:∀s,P s→kyQ P' (next s)) {l:Sp} (h:kyQ P l):kyQ P' (timesQ next l):=by
 have key:∀(k out:Sp),kyQ P' out→kyQ P k→kyQ P' (k.foldl (fun out a=>innQ a.2 out (atQ (next a.1))) out):=by
  intro k
  induction k with
  | nil=>intro out h _;exact h
  | cons a k ih =>
   intro out ho hk
   exact ih _ (o_14s ho (ky_at (hn _ (hk a (by simp))))) fun p hp=>hk p (by simp [hp])
 exact key _ _ (fun p hp=>by cases hp) (ky_at h)
def reach (top k:Nat) (i:Nat) (t:St):Prop:=t=(top,0,true)∨t.2=(0,false)∧k≤t.1∧t.1≤k+i∧t.1≤top
theorem o_14u {top k i:Nat} {c:Nat→Rat} {t:St} (h:reach top k i t):kyQ (reach top k (i+1)) (stepQ top c t):=by
 obtain ⟨a,b,f⟩:=t
 unfold stepQ
 split
 ·rename_i e
  intro p hp
  simp at hp;subst hp
  left
  rcases h with h | ⟨h,-⟩
  ·have h1:=congrArg (fun x:St=>x.2.1) h
   simp only at e h1
   rw [e,h1]
  ·simp only [Prod.mk.injEq] at h
   simp only at e
   rw [e,h.1]
 ·rename_i e
  simp only at e
  rcases h with h | ⟨h,h1,h2,h3⟩
  ·exact absurd (congrArg (fun x:St=>x.1) h) e
  ·simp only at h h1 h2 h3
   intro p hp
   unfold eitQ at hp
   rcases o_10u hp with hp | rfl
   ·rcases o_10u hp with hp | rfl
    ·cases hp
    ·exact .inr ⟨h,by simp only;omega,by simp only;omega,by simp only;omega⟩
   ·exact .inr ⟨h,h1,by simp only;omega,h3⟩
theorem o_14v {top:Nat} {c:Nat→Rat} {s:St} (hs:okQ top s):∀i,kyQ (reach top s.1 i) (ofQ (stepQ top c) s i)
 | 0=>fun p hp=>by
  simp [ofQ] at hp;subst hp
  obtain ⟨a,b,f⟩:=s
  obtain ⟨h1,h2,h3⟩:=hs
  simp only at h1 h2 h3
  subst h2
  cases f with
  | false=>exact .inr ⟨rfl,Nat.le_refl _,Nat.le_refl _,h1⟩
  | true=>left;rw [h3 rfl]
 | i+1=>o_14t (fun t ht=>o_14u ht) (o_14v hs i)
theorem o_14w {top k i:Nat} {l:Sp} (hu:Uq l) (h:kyQ (reach top k i) l):l.length≤i+2:=by
 have h1:(l.map (·.1)).length≤((top,0,true)::(List.range (i+1)).map fun j=>(k+j,0,false):List St).length:=by
  refine List.Nodup.length_le_of_subset hu fun t ht=>?_
  obtain ⟨p,hp,rfl⟩:=List.mem_map.1 ht
  rcases h p hp with e | ⟨e,e1,e2,-⟩
  ·rw [e];simp
  ·refine List.mem_cons_of_mem _ (List.mem_map.2 ⟨p.1.1-k,List.mem_range.2 (by omega),?_⟩)
   rw [show k+(p.1.1-k)=p.1.1 by omega,←e]
 simpa using h1
theorem nz_of {top:Nat} {c:Nat→Rat} (s:St) (n:Nat):nzQ (ofQ (stepQ top c) s n)≠[]:=by
 intro h
 have h2:=o_110 (top:=top) (c:=c) s n
 have h3:=ex_nz (fun _=>(1:Rat)) (ofQ (stepQ top c) s n)
 rw [show (ofQ (stepQ top c) s n).filter (fun p=>decide (p.2≠0))=nzQ (ofQ (stepQ top c) s n) from rfl,h] at h3
 rw [h2] at h3
 exact absurd h3 (by decide)
theorem o_14x (a:Nat) (h:size a≤1):∀n,size (a^n)≤n+1
 | 0=>Nat.le_trans (by decide:size 1≤1) (by omega)
 | n+1=>by
  rw [Nat.pow_succ]
  have:=o_ut (a^n) a
  have:=o_14x a h n
  omega
theorem o_14y {G n:Nat} (hG:G≤2^63) (hn:n≤100):size (80*80^n*(G^n*G))≤100000∧size (80^n*G^n)≤100000:=by
 have h1:size G≤1:=o_oi (Nat.lt_of_le_of_lt hG (by decide))
 have h2:size 80≤1:=o_oi (by decide)
 have a1:=o_14x 80 h2 n
 have a2:=o_14x G h1 n
 have a3:=o_ut (80*80^n) (G^n*G)
 have a4:=o_ut 80 (80^n)
 have a5:=o_ut (G^n) G
 have a6:=o_ut (80^n) (G^n)
 omega
theorem o_14z {k a w:Nat} (h:GoodS k a w):(∀x,x<topC w→0≤chP k a x)∧(∀x,x<topC w→chP k a x≤1):=by
 have h15:topC w≤15:=by have:=Nat.pow_le_pow_right (n:=2) (by omega) h.2.2;unfold topC;omega
 obtain ⟨G,hG,-,hc⟩:=o_14a h
 have hp:(0:Rat)<(G:Rat):=by exact_mod_cast hG
 refine ⟨fun x hx=>?_,fun x hx=>?_⟩
 ·obtain ⟨z,h1,h2⟩:=hc x (by omega)
  apply Classical.byContradiction
  intro hn
  have hz:(0:Rat)≤(z:Rat):=by exact_mod_cast Nat.zero_le z
  have:=Rat.mul_lt_mul_of_pos_right (Rat.not_le.1 hn) hp
  grind
 ·obtain ⟨z,h1,h2⟩:=hc x (by omega)
  apply Classical.byContradiction
  intro hn
  have hz:(z:Rat)≤(G:Rat):=by exact_mod_cast (by omega:z≤G)
  have:=Rat.mul_lt_mul_of_pos_right (Rat.not_le.1 hn) hp
  grind
end
section
open Go.RowKit
def dstQ (k a w:Nat) (s:St) (n:Nat):Sp:=ofQ (stepQ (topC w) (chP k a)) s n
end
section
open Go.RowKit
structure NextOK (next:St→Sp) (G:Nat) (s:St):Prop where
 uq:Uq (next s)
 nz:nzQ (next s)≠[]
 len:(next s).length≤2
 gr:∀p∈next s,Gr G 1 p.2
set_option maxHeartbeats 4000000 in
theorem o_150 {f:FuncId} {next:St→Sp} {T1:TypeId} {x0 x1 x2:D} (ho1:T1<1000000) (P:St→Prop) (l:Sp) (G D B:Nat) (hu:Uq l) (hok:∀p∈nzQ l,P p.1) (hnz:nzQ l≠[]) (h12:(nzQ l).length≤40) (hl:l.length≤1000000) (hD:0<D) (hB:1≤B) (hgl:∀p∈l,Gr D B p.2) (hG:0<G) (hf:∀s:St,P s→NextOK next G s∧Eqn Tryz.prog f [.d (.agg (stD s)),.p 0 0] [⟨T1,[.d x0,.d x1,.d x2]⟩] (.mp 1) [⟨T1,[.d x0,.d x1,.d x2]⟩,spO (next s)]) (hsz:size (80*B*(D*G))≤100000) :
  Eqn Tryz.prog o_ay [.mp 0,.fn (.func f) [.p 1 0]] [spO l,⟨T1,[.d x0,.d x1,.d x2]⟩] (.mp 2) [spO l,⟨T1,[.d x0,.d x1,.d x2]⟩,spO (timesQ next l)]:=by
 refine Eqn.gen [0,1,2] o_b0 (by simp) (by simp) (by rfl) (by decide) (by simp) (by simp [spO,ho1]) ?_
 obtain ⟨A,hA⟩:∃A,A=atQ l:=⟨_,rfl⟩
 have hAl:A.length≤40:=by rw [hA,(o_10j l).length_eq];exact h12
 have hA0:1≤A.length:=by
  rw [hA,(o_10j l).length_eq]
  rcases Nat.eq_zero_or_pos (nzQ l).length with e | e
  ·exact absurd (List.eq_nil_of_length_eq_zero e) hnz
  ·exact e
 have hAm:∀p∈A,p∈l:=fun p hp=>(List.mem_filter.1 ((o_10j l).mem_iff.1 (hA▸hp))).1
 have hAz:∀p∈A,p∈nzQ l:=fun p hp=>(o_10j l).mem_iff.1 (hA▸hp)
 have hDG:0<D*G:=Nat.mul_pos hD hG
 have hBD:size (B*D)≤100000:=by
  refine Nat.le_trans (o_o0 ?_) hsz
  calc B*D=B*D*1:=(Nat.mul_one _).symm
   _≤B*D*(80*G):=Nat.mul_le_mul_left _ (by omega)
   _=80*B*(D*G):=by simp [Nat.mul_comm,Nat.mul_left_comm,Nat.mul_assoc]
 have hat:=o_142 l hu hnz h12 hl (fun p hp=>(hgl p hp).rs hD hB hBD)
 have hGs:size (1*G)≤100000:=by
  refine Nat.le_trans (o_o0 ?_) hsz
  calc 1*G≤(80*B*D)*G:=Nat.mul_le_mul_right _ (Nat.mul_pos (by omega) hD)
   _=80*B*(D*G):=by rw [Nat.mul_assoc]
 have hgn:∀s:St,P s→∀p∈next s,Gr G 1 p.2:=fun s hs=>(hf s hs).1.gr
 have hnl:∀s:St,P s→(atQ (next s)).length≤2:=fun s hs=>Nat.le_trans (o_14j _) (hf s hs).1.len
 have hout:=o_14g (D:=D) (E:=G) (B:=B) (J:=2) (next:=next) (A:=A) (fun p hp=>hgl p (hAm p hp)) (fun p hp=>⟨hgn p.1 (hok p (hAz p hp)),hnl p.1 (hok p (hAz p hp))⟩)
 have hon:=o_14c next A
 have hoa:outQ next A A.length=timesQ next l:=by rw [hA];exact o_14d next l
 have hADl:=o_102 rcD (fun _=>rfl) A
 have hget:=o_14l A
 rw [←hoa]
 rw [←hA] at hat
 have hcl:∀s:St,P s→Eqn Tryz.prog f [.d (.agg (stD s)),.p 0 0] [⟨T1,[.d x0,.d x1,.d x2]⟩] (.mp 1) [⟨T1,[.d x0,.d x1,.d x2]⟩,spO (next s)]∧Eqn Tryz.prog o_am [.mp 0] [spO (next s)] (.d (.sl (atQ (next s)).length (spD rcD (atQ (next s))))) [spO (next s)]:=fun s hs=>by
  obtain ⟨hn,hh⟩:=hf s hs
  refine ⟨hh,o_142 _ hn.uq hn.nz ?_ ?_ fun p hp=>(hgn s hs p hp).rs hG (Nat.le_refl _) hGs⟩
  ·exact Nat.le_trans (List.length_filter_le _ _) (Nat.le_trans hn.len (by omega))
  ·exact Nat.le_trans hn.len (by omega)
 have hAok:∀p∈A,P p.1:=fun p hp=>hok p (hAz p hp)
 clear hA hoa hnz hf
 refine cc (c':=?z256) ?_ ?_
 case refine_1=>cbv<;>exact rfl
 try simp only [spO] at hat hcl ⊢
 generalize hLl:spD rcD l=LL at *
 refine A00 ?_;try with_reducible exact tt
 refine CallS.g [0] (hat) (R0 ?_);try with_reducible exact tt
 refine AW.loopG (α:=Nat) (fun i=>setS (List.replicate 40 .junk) [(1,.fn (.func f) [.p 1 0]),(5,.mp 2),(12,.d (.sl A.length (spD rcD A))),(13,.d (.int .i64 A.length)),(14,.d (.int .i64 (i:Nat)))]) (fun i=>[some ⟨1000391,LL.map .d⟩,some ⟨T1,[.d x0,.d x1,.d x2]⟩,some ⟨1000391,(spD rcD (outQ next A i)).map .d⟩]) (fun i=>i≤A.length) (fun i=>A.length-i) 0 ?_ (Nat.zero_le _) ?_ ?_ ?_
 ·intro i hi;simp
 ·simp
 ·simp [outQ,spD]
 rintro i hi
 simp
 by_cases hi2:i<A.length
 ·have hi3:(i:Int)<A.length:=by omega
  obtain ⟨s1,s2,s3,q,N1,N2,N3,hp,hN,hg⟩:=hget i hi2
  have hsk:=hAok _ (List.getElem_mem hi2)
  rw [hp] at hsk
  obtain ⟨hof,han⟩:=hcl (s1,s2,s3) hsk
  have hgq:Gr D B q:=by have:=hgl _ (hAm _ (List.getElem_mem hi2));rw [hp] at this;exact this
  have hon1:=hon i hi2
  rw [hp] at hon1
  simp only at hon1
  have hgo:=hout i hi
  have hn2:=hnl (s1,s2,s3) hsk
  have hgn2:=hgn (s1,s2,s3) hsk
  obtain ⟨C,hC⟩:∃C,C=atQ (next (s1,s2,s3)):=⟨_,rfl⟩
  have hCm:∀p∈C,Gr G 1 p.2:=fun p hp=>hgn2 p (List.mem_filter.1 ((o_10j _).mem_iff.1 (hC▸hp))).1
  rw [←hC] at hon1 han hn2
  have hCl:=o_102 rcD (fun _=>rfl) C
  have hgetC:=o_14l C
  have ewi:IntKind.i64.wrap ((i:Int)+1)=((i+1:Nat):Int):=by rw [w64 (by omega) (by omega)];omega
  simp only [stD] at hof han
  generalize hNL:spD rcD (next (s1,s2,s3))=NL at *
  have hb6:i*6+6≤A.length*6:=by omega
  have hb7:i*6<A.length*6:=by omega
  refine A10 (fs hi2 (fs hi3 (fs hg (fs hADl (fs hb6 hb7))))) ?_;try with_reducible exact tt
  refine CallS.g [1] (hof) (R0 ?_);try with_reducible exact tt
  refine CallS.g [4] (han) (R0 ?_);try with_reducible exact tt
  refine AW.loopG (α:=Nat) (fun j=>setS (List.replicate 40 .junk) [(1,.fn (.func f) [.p 1 0]),(5,.mp 2),(7,.p 3 0),(12,.d (.sl A.length (spD rcD A))),(13,.d (.int .i64 A.length)),(14,.d (.int .i64 (i:Nat))),(22,.d (.sl C.length (spD rcD C))),(23,.d (.int .i64 C.length)),(24,.d (.int .i64 (j:Nat)))]) (fun j=>[some ⟨1000391,LL.map .d⟩,some ⟨T1,[.d x0,.d x1,.d x2]⟩,some ⟨1000391,(spD rcD (innQ q (outQ next A i) (C.take j))).map .d⟩,some ⟨75,[.d (.int .i64 s1),.d (.int .i64 s2),.d (.bool s3),.d N1,.d N2,.d N3]⟩]) (fun j=>j≤C.length) (fun j=>C.length-j) 0 ?_ (Nat.zero_le _) ?_ ?_ ?_
  ·intro j hj;simp
  ·simp
  ·simp [innQ]
  rintro j hj
  simp
  by_cases hj2:j<C.length
  ·have hj3:(j:Int)<C.length:=by omega
   obtain ⟨t1,t2,t3,r,M1,M2,M3,hpc,hM,hgc⟩:=hgetC j hj2
   have hinn:=o_14b q (outQ next A i) C j hj2
   have hgr:=hCm _ (List.getElem_mem hj2)
   rw [hpc] at hinn hgr
   simp only at hinn hgr
   have hqr:=hgq.mul hgr
   have hgi:=o_14f (q:=q) (B:=B) hgo (C.take j) (fun p hp=>by
    have:=hgq.mul (hCm p (List.mem_of_mem_take hp))
    rwa [Nat.mul_one] at this)
   have hget2:=(o_14e hgi (t1,t2,t3)).le (C:=80*B) (by
    have e1:(C.take j).length≤2:=by rw [List.length_take];omega
    have e2:=Nat.mul_le_mul_right B e1
    have e3:i*2*B≤78*B:=Nat.mul_le_mul_right _ (by omega)
    omega)
   have hq1:=hgq.rs hD hB hBD
   have hr1:=hgr.rs hG (Nat.le_refl _) hGs
   have hmul:=o_v7 q r hq1 hr1
   have hadd:=o_11v (innQ q (outQ next A i) (C.take j)) (t1,t2,t3) (q*r) (hget2.rs hDG (by omega) hsz) ((hqr.le (C:=80*B) (by omega)).rs hDG (by omega) hsz)
   have ewj:IntKind.i64.wrap ((j:Int)+1)=((j+1:Nat):Int):=by rw [w64 (by omega) (by omega)];omega
   have hc6:j*6+6≤C.length*6:=by omega
   have hc7:j*6<C.length*6:=by omega
   rw [←hinn] at hadd
   rw [rD_rc q,rD_rc r,rD_rc (q*r),hN,hM] at hmul
   rw [rD_rc (q*r)] at hadd
   obtain ⟨P1,P2,P3,hP⟩:∃P1 P2 P3,rcD (q*r)=[P1,P2,P3]:=⟨_,_,_,rfl⟩
   rw [hP] at hmul hadd
   simp only [spO,stD] at hadd
   refine A10 (fs hj2 (fs hj3 (fs hgc (fs hCl (fs hc6 hc7))))) ?_;try with_reducible exact tt
   refine CallS.pu (hmul) (R0 ?_);try with_reducible exact tt
   refine CallS.g [2] (hadd) (R0 ?_);try with_reducible exact tt
   refine A10 ewj ?_;try with_reducible exact tt
   refine ⟨j+1,2,2,⟨by omega,by omega,by omega,by omega⟩,by omega,by omega,?_,?_⟩
   ·simp [swT,swH,sw,Ob.sw,V.ren,V.rens]
   ·simp [swT,swH,sw,Ob.sw,V.ren,V.rens]
  ·have h2:j=C.length:=by omega
   subst h2
   rw [List.take_length,←hon1]
   refine A00 ?_;try with_reducible exact tt
   refine A10 ewi ?_;try with_reducible exact tt
   refine ⟨i+1,2,2,⟨by omega,by omega,by omega,by omega⟩,by omega,by omega,?_,?_⟩
   ·simp [swT,swH,sw,Ob.sw,V.ren,V.rens]
   ·simp [swT,swH,sw,Ob.sw,V.ren,V.rens]
 ·have h2:i=A.length:=by omega
  subst h2
  refine A00 ?_;try with_reducible exact tt
set_option maxHeartbeats 4000000 in
theorem o_151 {f:FuncId} {next:St→Sp} {T1 T2:TypeId} {x0 x1 x2 y0 y1 y2:D} (ho1:T1<1000000) (ho2:T2<1000000) (P:St→Prop) (l:Sp) (G D B:Nat) (hu:Uq l) (hok:∀p∈nzQ l,P p.1) (hnz:nzQ l≠[]) (h12:(nzQ l).length≤40) (hl:l.length≤1000000) (hD:0<D) (hB:1≤B) (hgl:∀p∈l,Gr D B p.2) (hG:0<G) (hf:∀s:St,P s→NextOK next G s∧Eqn Tryz.prog f [.d (.agg (stD s)),.p 0 0,.p 1 0] [⟨T1,[.d x0,.d x1,.d x2]⟩,⟨T2,[.d y0,.d y1,.d y2]⟩] (.mp 2) [⟨T1,[.d x0,.d x1,.d x2]⟩,⟨T2,[.d y0,.d y1,.d y2]⟩,spO (next s)]) (hsz:size (80*B*(D*G))≤100000) :
  Eqn Tryz.prog o_ay [.mp 0,.fn (.func f) [.p 1 0,.p 2 0]] [spO l,⟨T1,[.d x0,.d x1,.d x2]⟩,⟨T2,[.d y0,.d y1,.d y2]⟩] (.mp 3) [spO l,⟨T1,[.d x0,.d x1,.d x2]⟩,⟨T2,[.d y0,.d y1,.d y2]⟩,spO (timesQ next l)]:=by
 refine Eqn.gen [0,1,2,3] o_b0 (by simp) (by simp) (by rfl) (by decide) (by simp) (by simp [spO,ho1,ho2]) ?_
 obtain ⟨A,hA⟩:∃A,A=atQ l:=⟨_,rfl⟩
 have hAl:A.length≤40:=by rw [hA,(o_10j l).length_eq];exact h12
 have hA0:1≤A.length:=by
  rw [hA,(o_10j l).length_eq]
  rcases Nat.eq_zero_or_pos (nzQ l).length with e | e
  ·exact absurd (List.eq_nil_of_length_eq_zero e) hnz
  ·exact e
 have hAm:∀p∈A,p∈l:=fun p hp=>(List.mem_filter.1 ((o_10j l).mem_iff.1 (hA▸hp))).1
 have hAz:∀p∈A,p∈nzQ l:=fun p hp=>(o_10j l).mem_iff.1 (hA▸hp)
 have hDG:0<D*G:=Nat.mul_pos hD hG
 have hBD:size (B*D)≤100000:=by
  refine Nat.le_trans (o_o0 ?_) hsz
  calc B*D=B*D*1:=(Nat.mul_one _).symm
   _≤B*D*(80*G):=Nat.mul_le_mul_left _ (by omega)
   _=80*B*(D*G):=by simp [Nat.mul_comm,Nat.mul_left_comm,Nat.mul_assoc]
 have hat:=o_142 l hu hnz h12 hl (fun p hp=>(hgl p hp).rs hD hB hBD)
 have hGs:size (1*G)≤100000:=by
  refine Nat.le_trans (o_o0 ?_) hsz
  calc 1*G≤(80*B*D)*G:=Nat.mul_le_mul_right _ (Nat.mul_pos (by omega) hD)
   _=80*B*(D*G):=by rw [Nat.mul_assoc]
 have hgn:∀s:St,P s→∀p∈next s,Gr G 1 p.2:=fun s hs=>(hf s hs).1.gr
 have hnl:∀s:St,P s→(atQ (next s)).length≤2:=fun s hs=>Nat.le_trans (o_14j _) (hf s hs).1.len
 have hout:=o_14g (D:=D) (E:=G) (B:=B) (J:=2) (next:=next) (A:=A) (fun p hp=>hgl p (hAm p hp)) (fun p hp=>⟨hgn p.1 (hok p (hAz p hp)),hnl p.1 (hok p (hAz p hp))⟩)
 have hon:=o_14c next A
 have hoa:outQ next A A.length=timesQ next l:=by rw [hA];exact o_14d next l
 have hADl:=o_102 rcD (fun _=>rfl) A
 have hget:=o_14l A
 rw [←hoa]
 rw [←hA] at hat
 have hcl:∀s:St,P s→Eqn Tryz.prog f [.d (.agg (stD s)),.p 0 0,.p 1 0] [⟨T1,[.d x0,.d x1,.d x2]⟩,⟨T2,[.d y0,.d y1,.d y2]⟩] (.mp 2) [⟨T1,[.d x0,.d x1,.d x2]⟩,⟨T2,[.d y0,.d y1,.d y2]⟩,spO (next s)]∧Eqn Tryz.prog o_am [.mp 0] [spO (next s)] (.d (.sl (atQ (next s)).length (spD rcD (atQ (next s))))) [spO (next s)]:=fun s hs=>by
  obtain ⟨hn,hh⟩:=hf s hs
  refine ⟨hh,o_142 _ hn.uq hn.nz ?_ ?_ fun p hp=>(hgn s hs p hp).rs hG (Nat.le_refl _) hGs⟩
  ·exact Nat.le_trans (List.length_filter_le _ _) (Nat.le_trans hn.len (by omega))
  ·exact Nat.le_trans hn.len (by omega)
 have hAok:∀p∈A,P p.1:=fun p hp=>hok p (hAz p hp)
 clear hA hoa hnz hf
 refine cc (c':=?z257) ?_ ?_
 case refine_1=>cbv<;>exact rfl
 try simp only [spO] at hat hcl ⊢
 generalize hLl:spD rcD l=LL at *
 refine A00 ?_;try with_reducible exact tt
 refine CallS.g [0] (hat) (R0 ?_);try with_reducible exact tt
 refine AW.loopG (α:=Nat) (fun i=>setS (List.replicate 40 .junk) [(1,.fn (.func f) [.p 1 0,.p 2 0]),(5,.mp 3),(12,.d (.sl A.length (spD rcD A))),(13,.d (.int .i64 A.length)),(14,.d (.int .i64 (i:Nat)))]) (fun i=>[some ⟨1000391,LL.map .d⟩,some ⟨T1,[.d x0,.d x1,.d x2]⟩,some ⟨T2,[.d y0,.d y1,.d y2]⟩,some ⟨1000391,(spD rcD (outQ next A i)).map .d⟩]) (fun i=>i≤A.length) (fun i=>A.length-i) 0 ?_ (Nat.zero_le _) ?_ ?_ ?_
 ·intro i hi;simp
 ·simp
 ·simp [outQ,spD]
 rintro i hi
 simp
 by_cases hi2:i<A.length
 ·have hi3:(i:Int)<A.length:=by omega
  obtain ⟨s1,s2,s3,q,N1,N2,N3,hp,hN,hg⟩:=hget i hi2
  have hsk:=hAok _ (List.getElem_mem hi2)
  rw [hp] at hsk
  obtain ⟨hof,han⟩:=hcl (s1,s2,s3) hsk
  have hgq:Gr D B q:=by have:=hgl _ (hAm _ (List.getElem_mem hi2));rw [hp] at this;exact this
  have hon1:=hon i hi2
  rw [hp] at hon1
  simp only at hon1
  have hgo:=hout i hi
  have hn2:=hnl (s1,s2,s3) hsk
  have hgn2:=hgn (s1,s2,s3) hsk
  obtain ⟨C,hC⟩:∃C,C=atQ (next (s1,s2,s3)):=⟨_,rfl⟩
  have hCm:∀p∈C,Gr G 1 p.2:=fun p hp=>hgn2 p (List.mem_filter.1 ((o_10j _).mem_iff.1 (hC▸hp))).1
  rw [←hC] at hon1 han hn2
  have hCl:=o_102 rcD (fun _=>rfl) C
  have hgetC:=o_14l C
  have ewi:IntKind.i64.wrap ((i:Int)+1)=((i+1:Nat):Int):=by rw [w64 (by omega) (by omega)];omega
  simp only [stD] at hof han
  generalize hNL:spD rcD (next (s1,s2,s3))=NL at *
  have hb6:i*6+6≤A.length*6:=by omega
  have hb7:i*6<A.length*6:=by omega
  refine A10 (fs hi2 (fs hi3 (fs hg (fs hADl (fs hb6 hb7))))) ?_;try with_reducible exact tt
  refine CallS.g [1,2] (hof) (R0 ?_);try with_reducible exact tt
  refine CallS.g [5] (han) (R0 ?_);try with_reducible exact tt
  refine AW.loopG (α:=Nat) (fun j=>setS (List.replicate 40 .junk) [(1,.fn (.func f) [.p 1 0,.p 2 0]),(5,.mp 3),(7,.p 4 0),(12,.d (.sl A.length (spD rcD A))),(13,.d (.int .i64 A.length)),(14,.d (.int .i64 (i:Nat))),(22,.d (.sl C.length (spD rcD C))),(23,.d (.int .i64 C.length)),(24,.d (.int .i64 (j:Nat)))]) (fun j=>[some ⟨1000391,LL.map .d⟩,some ⟨T1,[.d x0,.d x1,.d x2]⟩,some ⟨T2,[.d y0,.d y1,.d y2]⟩,some ⟨1000391,(spD rcD (innQ q (outQ next A i) (C.take j))).map .d⟩,some ⟨75,[.d (.int .i64 s1),.d (.int .i64 s2),.d (.bool s3),.d N1,.d N2,.d N3]⟩]) (fun j=>j≤C.length) (fun j=>C.length-j) 0 ?_ (Nat.zero_le _) ?_ ?_ ?_
  ·intro j hj;simp
  ·simp
  ·simp [innQ]
  rintro j hj
  simp
  by_cases hj2:j<C.length
  ·have hj3:(j:Int)<C.length:=by omega
   obtain ⟨t1,t2,t3,r,M1,M2,M3,hpc,hM,hgc⟩:=hgetC j hj2
   have hinn:=o_14b q (outQ next A i) C j hj2
   have hgr:=hCm _ (List.getElem_mem hj2)
   rw [hpc] at hinn hgr
   simp only at hinn hgr
   have hqr:=hgq.mul hgr
   have hgi:=o_14f (q:=q) (B:=B) hgo (C.take j) (fun p hp=>by
    have:=hgq.mul (hCm p (List.mem_of_mem_take hp))
    rwa [Nat.mul_one] at this)
   have hget2:=(o_14e hgi (t1,t2,t3)).le (C:=80*B) (by
    have e1:(C.take j).length≤2:=by rw [List.length_take];omega
    have e2:=Nat.mul_le_mul_right B e1
    have e3:i*2*B≤78*B:=Nat.mul_le_mul_right _ (by omega)
    omega)
   have hq1:=hgq.rs hD hB hBD
   have hr1:=hgr.rs hG (Nat.le_refl _) hGs
   have hmul:=o_v7 q r hq1 hr1
   have hadd:=o_11v (innQ q (outQ next A i) (C.take j)) (t1,t2,t3) (q*r) (hget2.rs hDG (by omega) hsz) ((hqr.le (C:=80*B) (by omega)).rs hDG (by omega) hsz)
   have ewj:IntKind.i64.wrap ((j:Int)+1)=((j+1:Nat):Int):=by rw [w64 (by omega) (by omega)];omega
   have hc6:j*6+6≤C.length*6:=by omega
   have hc7:j*6<C.length*6:=by omega
   rw [←hinn] at hadd
   rw [rD_rc q,rD_rc r,rD_rc (q*r),hN,hM] at hmul
   rw [rD_rc (q*r)] at hadd
   obtain ⟨P1,P2,P3,hP⟩:∃P1 P2 P3,rcD (q*r)=[P1,P2,P3]:=⟨_,_,_,rfl⟩
   rw [hP] at hmul hadd
   simp only [spO,stD] at hadd
   refine A10 (fs hj2 (fs hj3 (fs hgc (fs hCl (fs hc6 hc7))))) ?_;try with_reducible exact tt
   refine CallS.pu (hmul) (R0 ?_);try with_reducible exact tt
   refine CallS.g [3] (hadd) (R0 ?_);try with_reducible exact tt
   refine A10 ewj ?_;try with_reducible exact tt
   refine ⟨j+1,3,3,⟨by omega,by omega,by omega,by omega⟩,by omega,by omega,?_,?_⟩
   ·simp [swT,swH,sw,Ob.sw,V.ren,V.rens]
   ·simp [swT,swH,sw,Ob.sw,V.ren,V.rens]
  ·have h2:j=C.length:=by omega
   subst h2
   rw [List.take_length,←hon1]
   refine A00 ?_;try with_reducible exact tt
   refine A10 ewi ?_;try with_reducible exact tt
   refine ⟨i+1,3,3,⟨by omega,by omega,by omega,by omega⟩,by omega,by omega,?_,?_⟩
   ·simp [swT,swH,sw,Ob.sw,V.ren,V.rens]
   ·simp [swT,swH,sw,Ob.sw,V.ren,V.rens]
 ·have h2:i=A.length:=by omega
  subst h2
  refine A00 ?_;try with_reducible exact tt
end
section
open Go.RowKit
theorem o_152 (n:Nat):wD (n:Int) = .agg [natW n,.bool false]:=by
 unfold wD
 rw [Int.natAbs_natCast]
 congr 4
theorem o_153 (p q:Nat) (h0:0<q) (hp:size p≤900000) (hq:size q≤900000):Eqn Tryz.prog o_a7 [.d (.agg [natW p,.bool false]),.d (.agg [natW q,.bool false])] [] (.tup [.d (rD (mkRat p q)),.d (.int .i64 0)]) []:=by
 refine Eqn.pure o_a9 Plain.ok ?_
 have ha:=o_ok q false
 have hp1:=o_ok p false
 have hn1:=o_ol p false
 have hn2:=o_ol q false
 have hz:=o_nh q
 have hq0:(q==0)=false:=by simp;omega
 rw [hq0] at hz
 have h4:=o_ux false p (p:Int) rfl
 have h5:=o_v4 (p:Int) q h0 (by rw [Int.natAbs_natCast];exact hp) hq
 rw [o_152] at h4 h5
 refine cc (c':=?z258) ?_ ?_
 case refine_1=>cbv<;>exact rfl
 try simp only [rD] at h5 ⊢
 refine G0 ?_;try with_reducible exact tt
 refine CallS.pu (ha) (R0 ?_);try with_reducible exact tt
 refine CallS.pu (hz) (R0 ?_);try with_reducible exact tt
 refine AW.cond rfl (fun h=>?_) (fun h=>?_)
 ·simp at h
 refine G0 ?_;try with_reducible exact tt
 refine CallS.pu (hn1) (R0 ?_);try with_reducible exact tt
 refine CallS.pu (hn2) (R0 ?_);try with_reducible exact tt
 refine CallS.pu (hp1) (R0 ?_);try with_reducible exact tt
 refine CallS.pu (h4) (R0 ?_);try with_reducible exact tt
 refine CallS.pu (ha) (R0 ?_);try with_reducible exact tt
 refine CallS.pu (h5) (R0 ?_);try with_reducible exact tt
theorem o_154 (x y:Rat) (hx:RS x 100000) (hy:RS y 100000) (hx0:0≤x.num) (hy0:0<y.num):Eqn Tryz.prog o_hn [.d (rD x),.d (rD y)] [] (.tup [.d (rD (x/y)),.d (.int .i64 0)]) []:=by
 refine Eqn.pure o_hp Plain.ok ?_
 have x1:=hx.1;have x2:=hx.2;have y1:=hy.1;have y2:=hy.2
 obtain ⟨u,hu⟩:∃u:Nat,x.num=(u:Int):=⟨x.num.natAbs,by omega⟩
 obtain ⟨v,hv⟩:∃v:Nat,y.num=(v:Int):=⟨y.num.natAbs,by omega⟩
 have hu2:x.num.natAbs=u:=by omega
 have hv2:y.num.natAbs=v:=by omega
 have h1:=o_v0 x.num y.den (by omega) (by rw [Int.natAbs_natCast];omega)
 have h2:=o_v0 y.num x.den (by omega) (by rw [Int.natAbs_natCast];omega)
 have h3:=o_v6 x (by omega)
 have h4:=o_v6 y (by omega)
 rw [hu2] at x1;rw [hv2] at y1
 have s1:=o_ut u y.den
 have s2:=o_ut v x.den
 have h5:=o_153 (u*y.den) (v*x.den) (Nat.mul_pos (by omega) x.den_pos) (by omega) (by omega)
 have e:mkRat ((u*y.den:Nat):Int) (v*x.den)=x/y:=by
  have hd:=o_149 x.den_pos
  have hd2:=o_149 y.den_pos
  have hv0:(v:Rat)≠0:=o_149 (by omega)
  have ex:x=(u:Rat)/(x.den:Rat):=by
   have h:=Rat.mkRat_self x
   rw [Rat.mkRat_eq_div,hu] at h
   exact h.symm
  have ey:y=(v:Rat)/(y.den:Rat):=by
   have h:=Rat.mkRat_self y
   rw [Rat.mkRat_eq_div,hv] at h
   exact h.symm
  rw [Rat.mkRat_eq_div]
  have k1:(((u*y.den:Nat):Int):Rat)=(u:Rat)*(y.den:Rat):=by push_cast;rfl
  have k2:((v*x.den:Nat):Rat)=(v:Rat)*(x.den:Rat):=by simp
  rw [k1,k2]
  generalize hxd:(x.den:Rat)=xd at *
  generalize hyd:(y.den:Rat)=yd at *
  generalize (u:Rat)=uu at *
  generalize (v:Rat)=vv at *
  rw [ex,ey]
  grind
 rw [e] at h5
 rw [hu] at h1;rw [hv] at h2
 rw [←Int.natCast_mul,o_152,o_152,o_152] at h1 h2
 rw [o_152] at h3 h4
 refine cc (c':=?z259) ?_ ?_
 case refine_1=>cbv<;>exact rfl
 try simp only [rD,hu2,hv2,hu,hv] at h1 h2 h3 h4 h5 ⊢
 refine G0 ?_;try with_reducible exact tt
 refine CallS.pu (h4) (R0 ?_);try with_reducible exact tt
 refine CallS.pu (h1) (R0 ?_);try with_reducible exact tt
 refine CallS.pu (h3) (R0 ?_);try with_reducible exact tt
 refine CallS.pu (h2) (R0 ?_);try with_reducible exact tt
 refine CallS.pu (h5) (R0 ?_);try with_reducible exact tt
end
section
open Go.RowKit
theorem o_155:∀a,a<3→∀x,x<15→(placeY a x).shift≤(placeY a (x+1)).shift:=by decide
theorem o_156 {k a w r x:Nat} (h:GoodS k a w) (hk:k≠1) (hr:r≤x) (hx:x≤15):expOf k a r≤expOf k a x:=by
 unfold expOf
 split
 ·exact Nat.div_le_div_right hr
 ·have ha:a<3:=by have:=h.1;omega
  have key:∀d,r+d≤15→(placeY a r).shift≤(placeY a (r+d)).shift:=by
   intro d
   induction d with
   | zero=>intro _;exact Nat.le_refl _
   | succ d ih=>intro hd;exact Nat.le_trans (ih (by omega)) (o_155 a ha (r+d) (by omega))
  have:=key (x-r) (by omega)
  rwa [show r+(x-r)=x by omega] at this
theorem o_157 (e:Nat):mkRat 1 (2^e)*((2^e:Nat):Rat)=1:=by
 rw [Rat.mkRat_eq_div]
 have:=Rat.div_mul_cancel (a:=((1:Int):Rat)) (o_149 (Nat.two_pow_pos e))
 simpa using this
theorem o_158 {e:Nat} (he:e≤63):Gr (2^63) 1 (mkRat 1 (2^e)):=by
 refine ⟨2^(63-e),?_,by rw [Nat.one_mul];exact Nat.pow_le_pow_right (by decide) (by omega)⟩
 have e1:=o_157 e
 have e2:((2^63:Nat):Rat)=((2^e:Nat):Rat)*((2^(63-e):Nat):Rat):=by
  have:2^63=2^e*2^(63-e):=by rw [←Nat.pow_add];congr 1;omega
  rw [this];simp
 rw [e2,←Rat.mul_assoc,e1];grind
theorem o_159 {e f:Nat} (h:f≤e):mkRat 1 (2^e)/mkRat 1 (2^f)=mkRat 1 (2^(e-f)):=by
 have h1:=o_157 e
 have h2:=o_157 f
 have h3:=o_157 (e-f)
 have h4:((2^e:Nat):Rat)=((2^f:Nat):Rat)*((2^(e-f):Nat):Rat):=by
  have:2^e=2^f*2^(e-f):=by rw [←Nat.pow_add];congr 1;omega
  rw [this];simp
 rw [h4] at h1
 generalize mkRat 1 (2^e)=x at *
 generalize mkRat 1 (2^f)=y at *
 generalize mkRat 1 (2^(e-f))=z at *
 generalize ((2^f:Nat):Rat)=u at *
 generalize ((2^(e-f):Nat):Rat)=v at *
 have hy:y≠0:=by intro hy;subst hy;simp at h2
 have:x=z*y:=by grind
 rw [this]
 exact Rat.mul_div_cancel hy
theorem o_15a {a:Nat} (ha:1≤a) (n:Nat):chM a n≠0:=by
 unfold chM
 have h:mkRat (a:Int) (a+1)≠0:=by
  rw [Rat.mkRat_eq_div]
  have h1:((a:Int):Rat)≠0:=o_149 (by omega:0<a)
  have h2:=o_149 (by omega:0<a+1)
  intro e
  have:=Rat.div_mul_cancel (a:=((a:Int):Rat)) h2
  rw [e] at this
  simp at this
  exact h1 (by simpa using this.symm)
 induction n with
 | zero=>simp
 | succ n ih =>
  rw [Rat.pow_succ]
  intro e
  rcases Rat.mul_eq_zero.1 e with e | e
  ·exact ih e
  ·exact h e
theorem o_15b (q:Rat) (m:Nat):∀n,q^(m+n)=q^m*q^n
 | 0=>by simp
 | n+1=>by rw [←Nat.add_assoc,Rat.pow_succ,Rat.pow_succ,o_15b q m n,Rat.mul_assoc]
theorem o_15c {a:Nat} (ha:1≤a) {r x:Nat} (hr:r≤x):chM a x/chM a r=chM a (x-r):=by
 have h:=o_15a ha r
 have e:chM a x=chM a (x-r)*chM a r:=by
  unfold chM
  rw [←o_15b,show x-r+r=x by omega]
 rw [e]
 exact Rat.mul_div_cancel h
theorem gs_a {k a w:Nat} (h:GoodS k a w) (hk:k=1):1≤a∧a≤4:=by
 rcases h.1 with ⟨-,h1,h2⟩ | ⟨h1,-⟩ | ⟨h1,-⟩
 ·exact ⟨h1,h2⟩
 ·omega
 ·omega
theorem o_15d {k a w x:Nat} (h:GoodS k a w) (hx:x≤15):chP k a x≠0:=by
 unfold chP
 split
 ·rename_i hk
  exact o_15a (gs_a h hk).1 x
 ·intro e
  have:=o_157 (expOf k a x)
  rw [e] at this
  simp at this
def ratC (k a r x:Nat):Rat:=if r≤x then chP k a x/chP k a r else 0
theorem o_15e {k a w:Nat} (h:GoodS k a w):∃G:Nat,0<G∧G≤2^63∧(∀x,x≤15→Gr G 1 (chP k a x))∧∀r x,x≤15→Gr G 1 (ratC k a r x):=by
 by_cases hk:k=1
 ·obtain ⟨G,h1,h2,h3⟩:=o_14a h
  refine ⟨G,h1,h2,h3,fun r x hx=>?_⟩
  unfold ratC
  split
  ·rename_i hr
   have:=h3 (x-r) (by omega)
   subst hk
   rw [chP,if_pos rfl] at this ⊢
   rw [chP,if_pos rfl,o_15c (gs_a h rfl).1 hr]
   exact this
  ·exact Gr.zero _ _
 ·refine ⟨2^63,by decide,Nat.le_refl _,fun x hx=>?_,fun r x hx=>?_⟩
  ·rw [chP,if_neg hk]
   have:=o_su h hk hx
   exact o_158 (by omega)
  ·unfold ratC
   split
   ·rename_i hr
    rw [chP,if_neg hk,chP,if_neg hk,o_159 (o_156 h hk hr hx)]
    have:=o_su h hk hx
    exact o_158 (by omega)
   ·exact Gr.zero _ _
theorem gr_01 {G:Nat} (hG:0<G) {q:Rat} (h:Gr G 1 q):0≤q∧q≤1:=by
 have hp:(0:Rat)<(G:Rat):=by exact_mod_cast hG
 obtain ⟨z,h1,h2⟩:=h
 refine ⟨?_,?_⟩
 ·apply Classical.byContradiction
  intro hn
  have hz:(0:Rat)≤(z:Rat):=by exact_mod_cast Nat.zero_le z
  have:=Rat.mul_lt_mul_of_pos_right (Rat.not_le.1 hn) hp
  grind
 ·apply Classical.byContradiction
  intro hn
  have hz:(z:Rat)≤(G:Rat):=by exact_mod_cast (by omega:z≤G)
  have:=Rat.mul_lt_mul_of_pos_right (Rat.not_le.1 hn) hp
  grind
theorem o_15f {k a w r x:Nat} (h:GoodS k a w) (hx:x≤15):RS (ratC k a r x) 1000:=by
 obtain ⟨G,h1,h2,-,h3⟩:=o_15e h
 exact (h3 r x hx).rs h1 (Nat.le_refl _) (Nat.le_trans (o_oi (Nat.lt_of_le_of_lt (by omega) (by decide:2^63<2^64))) (by omega))
end
section
open Go.RowKit
def RO (q:Rat):Ob:=⟨47,[.d (natW q.num.natAbs),.d (.bool (decide (q.num<0))),.d (natW (q.den-1))]⟩
def SO (s:St):Ob:=⟨64,[.d (.int .i64 s.1),.d (.int .i64 s.2.1),.d (.bool s.2.2)]⟩
theorem o_15g {G:Nat} (hG:0<G) {q:Rat} (h:Gr G 1 q):0≤q.num:=by
 have:=(gr_01 hG h).1
 exact Rat.num_nonneg.2 this
theorem o_15h {k a w:Nat} (h:GoodS k a w) (s:St) (hs:s.1≤topC w) (r:Nat) (hr:r≤s.1) (hrt:r<topC w):Eqn Tryz.prog o_hk [.d (.agg (stD s)),.p 0 0,.p 1 0] [PO k a w,RO (chP k a r)] (.mp 2) [PO k a w,RO (chP k a r),spO (stepQ (topC w) (ratC k a r) s)]:=by
 have h15:topC w≤15:=by have:=Nat.pow_le_pow_right (n:=2) (by omega) h.2.2;unfold topC;omega
 have hl:=o_126 k a w
 obtain ⟨G,hG,hG63,hc1,hc2⟩:=o_15e h
 have hGs:size (1*G)≤1000:=Nat.le_trans (o_oi (Nat.lt_of_le_of_lt (by omega) (by decide:2^63<2^64))) (by omega)
 have hrs:=o_15f (r:=r) (x:=s.1) h (by omega)
 have hst:stepQ (topC w) (ratC k a r) s=onQ w s (ratC k a r s.1):=rfl
 rw [hst]
 have hrc:ratC k a r s.1=chP k a s.1/chP k a r:=by unfold ratC;rw [if_pos hr]
 have hy0:0<(chP k a r).num:=by
  have h1:=o_15g hG (hc1 r (by omega))
  have h2:(chP k a r).num≠0:=fun e=>o_15d h (x:=r) (by omega) (Rat.num_eq_zero.1 e)
  omega
 have key:∃x0 x1 x2:D,Sub1 (.d (.agg [x0,x1,x2])) (.d (rD (if s.1=topC w then 0 else chP k a s.1)))∧Eqn Tryz.prog o_ed [.d (parD k a w),.d (.int .i64 s.1)] [] (.tup [.d (.agg [x0,x1,x2]),.d (.int .i64 0)]) []:=by
  by_cases e:s.1=topC w
  ·refine ⟨_,_,_,by rw [if_pos e];exact o_11t,?_⟩
   have:=o_125 h
   rw [show 2^w-1=s.1 from e.symm] at this
   exact this
  ·refine ⟨_,_,_,by rw [if_neg e];exact Sub1.refl _,o_124 h (by unfold topC at *;omega)⟩
 obtain ⟨x0,x1,x2,hX,hch⟩:=key
 have key2:∃q:Rat,RS q 1000∧onQ w s q=onQ w s (ratC k a r s.1)∧Eqn Tryz.prog o_hn [.d (.agg [x0,x1,x2]),.d (rD (chP k a r))] [] (.tup [.d (rD q),.d (.int .i64 0)]) []:=by
  have hyr:=((hc1 r (by omega)).rs hG (Nat.le_refl _) hGs).le (show 1000≤100000 by omega)
  by_cases e:s.1=topC w
  ·rw [if_pos e] at hX
   refine ⟨0,⟨by decide,by decide⟩,by unfold onQ;rw [if_pos e,if_pos e],?_⟩
   have:=o_154 0 (chP k a r) ⟨by decide,by decide⟩ hyr (by decide) hy0
   rw [show (0:Rat)/chP k a r=0 by grind] at this
   exact this.sub (Subs.cons hX (Subs.refl _))
  ·rw [if_neg e] at hX
   refine ⟨ratC k a r s.1,hrs,rfl,?_⟩
   have:=o_154 (chP k a s.1) (chP k a r) (((hc1 s.1 (by omega)).rs hG (Nat.le_refl _) hGs).le (by omega)) hyr (o_15g hG (hc1 s.1 (by omega))) hy0
   rw [←hrc] at this
   exact this.sub (Subs.cons hX (Subs.refl _))
 obtain ⟨q,hq,hqo,hdv⟩:=key2
 have hon:=o_134 h s hs q hq (rD q) (Sub1.refl _) ⟨_,_,_,rfl⟩
 rw [hqo] at hon
 refine Eqn.gen [0,1,5] o_hm (by simp) (by simp) (by rfl) (by decide) (by simp) (by simp [spO,PO,RO]) ?_
 refine cc (c':=?z260) ?_ ?_
 case refine_1=>cbv<;>exact rfl
 try simp only [spO,stD,parD,PO,RO,rD] at hl hch hdv hon ⊢
 generalize spD rcD _=L at *
 generalize natW (chP k a r).num.natAbs=Y0 at *
 generalize natW ((chP k a r).den-1)=Y2 at *
 generalize decide ((chP k a r).num<0)=Y1 at *
 generalize natW q.num.natAbs=Z0 at *
 generalize natW (q.den-1)=Z2 at *
 generalize decide (q.num<0)=Z1 at *
 refine A00 ?_;try with_reducible exact tt
 refine CallS.pu (hl) (R0 ?_);try with_reducible exact tt
 refine CallS.pu (hch) (R0 ?_);try with_reducible exact tt
 refine A00 ?_;try with_reducible exact tt
 refine CallS.pu (hdv) (R0 ?_);try with_reducible exact tt
 refine A00 ?_;try with_reducible exact tt
 refine CallS.nX (hon) (R0 ?_);try with_reducible exact tt
theorem o_15i (s o:St):Eqn Tryz.prog o_hq [.d (.agg (stD s)),.p 0 0] [SO o] (.mp 1) [SO o,spO [((s.1,s.2.1,s.2.2 || o.2.2),1)]]:=by
 have hsu:=o_11z (s.1,s.2.1,s.2.2 || o.2.2)
 refine Eqn.gen [0,2] o_hs (by simp) (by simp) (by rfl) (by decide) (by simp) (by simp [spO,SO]) ?_
 obtain ⟨s1,s2,s3⟩:=s
 obtain ⟨o1,o2,o3⟩:=o
 refine cc (c':=?z261) ?_ ?_
 case refine_1=>cbv<;>exact rfl
 try simp only [spO,stD,SO] at hsu ⊢
 generalize spD rcD _=L at *
 cases s3
 ·simp only [Bool.false_or] at hsu
  refine A00 ?_;try with_reducible exact tt
  refine CallS.nX (hsu) (R0 ?_);try with_reducible exact tt
 ·simp only [Bool.true_or] at hsu
  refine A00 ?_;try with_reducible exact tt
  refine CallS.nX (hsu) (R0 ?_);try with_reducible exact tt
end
section
open Go.RowKit
theorem o_15j {P P':St→Prop} {next:St→Sp} (hn:∀s,P s→kyQ P' (nzQ (next s))) {l:Sp} (h:kyQ P l):kyQ P' (timesQ next l):=by
 have key:∀(k out:Sp),kyQ P' out→kyQ P k→kyQ P' (k.foldl (fun out a=>innQ a.2 out (atQ (next a.1))) out):=by
  intro k
  induction k with
  | nil=>intro out h _;exact h
  | cons a k ih =>
   intro out ho hk
   refine ih _ (o_14s ho fun p hp=>hn _ (hk a (by simp)) p ((o_10j _).mem_iff.1 hp)) fun p hp=>hk p (by simp [hp])
 exact key _ _ (fun p hp=>by cases hp) (ky_at h)
def clQ (top k a:Nat) (s:St):Nat→Sp
 | 0=>[(s,1)]
 | r+1=>timesQ (stepQ top (ratC k a r)) (clQ top k a s r)
def fullQ (f:Bool) (s:St):Sp:=[((s.1,s.2.1,s.2.2 || f),1)]
def mgQ (top k a:Nat) (s o:St):Sp:=timesQ (fullQ o.2.2) (clQ top k a s o.1)
theorem cl_uq {top k a:Nat} (s:St):∀r,Uq (clQ top k a s r)
 | 0=>by simp [clQ,Uq]
 | r+1=>o_10q _ _
theorem o_15k {top k a:Nat} (s:St):∀r,exQ (fun _=>1) (clQ top k a s r)=1
 | 0=>by simp only [clQ,exQ];grind
 | r+1=>by
  show exQ (fun _=>1) (timesQ _ (clQ top k a s r))=1
  rw [o_10r]
  have:(fun t=>exQ (fun _=>(1:Rat)) (stepQ top (ratC k a r) t))=fun _=>1:=by
   funext t
   rw [(o_10t (fun _=>1) top _ t).2]
   split
   ·rfl
   ·grind
  rw [this,o_15k s r]
theorem cl_nz {top k a:Nat} (s:St) (r:Nat):nzQ (clQ top k a s r)≠[]:=by
 intro h
 have h2:=o_15k (top:=top) (k:=k) (a:=a) s r
 have h3:=ex_nz (fun _=>(1:Rat)) (clQ top k a s r)
 rw [show (clQ top k a s r).filter (fun p=>decide (p.2≠0))=nzQ (clQ top k a s r) from rfl,h] at h3
 rw [h2] at h3
 exact absurd h3 (by decide)
theorem o_15l {top k a:Nat} {s:St} (hs:okQ top s):∀r,kyQ (reach top s.1 r) (clQ top k a s r)
 | 0=>fun p hp=>by
  simp [clQ] at hp;subst hp
  obtain ⟨a,b,f⟩:=s
  obtain ⟨h1,h2,h3⟩:=hs
  simp only at h1 h2 h3
  subst h2
  cases f with
  | false=>exact .inr ⟨rfl,Nat.le_refl _,Nat.le_refl _,h1⟩
  | true=>left;rw [h3 rfl]
 | r+1=>o_14t (fun t ht=>o_14u ht) (o_15l hs r)
theorem o_15m {k a w:Nat} (h:GoodS k a w) (r:Nat):(∀x,x<topC w→0≤ratC k a r x)∧(∀x,x<topC w→ratC k a r x≤1):=by
 have h15:topC w≤15:=by have:=Nat.pow_le_pow_right (n:=2) (by omega) h.2.2;unfold topC;omega
 obtain ⟨G,hG,-,-,hc⟩:=o_15e h
 exact ⟨fun x hx=>(gr_01 hG (hc r x (by omega))).1,fun x hx=>(gr_01 hG (hc r x (by omega))).2⟩
theorem cl_ok {k a w:Nat} (h:GoodS k a w) {s:St} (hs:okQ (topC w) s):∀r,oklQ (topC w) (clQ (topC w) k a s r)
 | 0=>fun p hp=>by
  simp [clQ] at hp;subst hp
  exact ⟨hs,(by decide:(0:Rat)≤1)⟩
 | r+1=>o_10y (fun s hs=>o_10z (o_15m h r).1 (o_15m h r).2 hs) (cl_ok h hs r)
theorem cl_up {k a w:Nat} (h:GoodS k a w) {s:St} (hs:okQ (topC w) s):∀r,r≤topC w→kyQ (fun t=>okQ (topC w) t∧r≤t.1) (clQ (topC w) k a s r)
 | 0,_=>fun p hp=>by
  simp [clQ] at hp;subst hp
  exact ⟨hs,Nat.zero_le _⟩
 | r+1,hr=>by
  have h15:topC w≤15:=by have:=Nat.pow_le_pow_right (n:=2) (by omega) h.2.2;unfold topC;omega
  refine o_15j (P:=fun t=>okQ (topC w) t∧r≤t.1) (fun t ht p hp=>?_) (cl_up h hs r (by omega))
  have hp1:p∈stepQ (topC w) (ratC k a r) t:=(List.mem_filter.1 hp).1
  have hp2:p.2≠0:=by have:=(List.mem_filter.1 hp).2;simpa using this
  refine ⟨(o_10z (o_15m h r).1 (o_15m h r).2 ht.1 p hp1).1,?_⟩
  obtain ⟨u1,u2⟩:=ht
  rcases Nat.lt_or_ge r t.1 with hlt | hge
  ·unfold stepQ at hp1
   split at hp1
   ·simp at hp1;subst hp1;exact hlt
   ·unfold eitQ at hp1
    rcases o_10u hp1 with hp1 | rfl
    ·rcases o_10u hp1 with hp1 | rfl
     ·cases hp1
     ·show r+1≤t.1+1;omega
    ·exact hlt
  ·have e:t.1=r:=by omega
   have hne:¬t.1=topC w:=by omega
   have hc1:ratC k a r t.1=1:=by
    unfold ratC
    rw [e,if_pos (Nat.le_refl _)]
    have:=o_15d h (x:=r) (by omega)
    grind
   unfold stepQ at hp1
   rw [if_neg hne,hc1] at hp1
   have hne2:¬(t.1+1,t.2)=t:=fun he=>by have:=congrArg (fun x:St=>x.1) he;simp at this
   have e2:eitQ 1 (t.1+1,t.2) t=[((t.1+1,t.2),1),(t,0)]:=by
    unfold eitQ addQ
    have hne3:¬t=(t.1+1,t.2):=fun e=>hne2 e.symm
    have z1:(0:Rat)+1=1:=Rat.zero_add 1
    have z2:(0:Rat)+(1-1)=0:=by grind
    simp only [setQ,getQ,if_neg hne3,z1,z2]
   rw [e2] at hp1
   rcases List.mem_cons.1 hp1 with rfl | hp1
   ·show r+1≤t.1+1;omega
   ·rcases List.mem_cons.1 hp1 with rfl | hp1
    ·exact absurd rfl hp2
    ·cases hp1
theorem cl_gr {k a w G:Nat} (h:GoodS k a w) (hc:∀r x,x≤15→Gr G 1 (ratC k a r x)) {s:St} (hs:okQ (topC w) s):∀r,r≤15→∀p∈clQ (topC w) k a s r,Gr (G^r) (80^r) p.2
 | 0,_=>fun p hp=>by
  simp [clQ] at hp;subst hp
  exact Gr.one _
 | r+1,hn=>by
  have h15:topC w≤15:=by have:=Nat.pow_le_pow_right (n:=2) (by omega) h.2.2;unfold topC;omega
  have ih:=cl_gr h hc hs r (by omega)
  have hl:=o_14w (cl_uq s r) (o_15l (k:=k) (a:=a) hs r)
  have hA:(atQ (clQ (topC w) k a s r)).length≤40:=Nat.le_trans (o_14j _) (by omega)
  have hm:∀p∈atQ (clQ (topC w) k a s r),p∈clQ (topC w) k a s r:=fun p hp=>(List.mem_filter.1 ((o_10j _).mem_iff.1 hp)).1
  have:=o_14g (D:=G^r) (E:=G) (B:=80^r) (J:=2) (next:=stepQ (topC w) (ratC k a r)) (A:=atQ (clQ (topC w) k a s r)) (fun p hp=>ih p (hm p hp)) (fun p hp=>⟨o_14k (fun x hx=>hc r x (by omega)) p.1 (cl_ok h hs r p (hm p hp)).1.1,Nat.le_trans (o_14j _) (o_14i _ _ _)⟩) _ (Nat.le_refl _)
  rw [o_14d] at this
  intro p hp
  rw [Nat.pow_succ]
  refine (this p hp).le ?_
  rw [Nat.pow_succ,Nat.mul_comm (80^r) 80]
  exact Nat.mul_le_mul_right _ (by omega)
end
section
open Go.RowKit
def plQ (g:Nat→Rat) (s:St):Rat:=g s.1
theorem o_15n {k a w b:Nat} (h:GoodS k a w) (hb:b≤15):ratC k a b b=1:=by
 unfold ratC
 rw [if_pos (Nat.le_refl _)]
 have:=o_15d h hb
 grind
end
section
open Go.RowKit
theorem o_15o (f:Bool) (G:Nat) (s:St):NextOK (fullQ f) G s where
 uq:=by simp [fullQ,Uq]
 nz:=by simp [fullQ,nzQ]
 len:=by simp [fullQ]
 gr:=fun p hp=>by simp [fullQ] at hp;subst hp;exact Gr.one G
theorem o_15p {k a w G:Nat} (h:GoodS k a w) (hc:∀r x,x≤15→Gr G 1 (ratC k a r x)) (r:Nat) (s:St) (hs:s.1≤topC w):NextOK (stepQ (topC w) (ratC k a r)) G s where
 uq:=(o_10t (fun _=>0) _ _ s).1
 nz:=nz_ne s
 len:=o_14i _ _ _
 gr:=o_14k (fun x hx=>hc r x (by
  have:topC w≤15:=by have:=Nat.pow_le_pow_right (n:=2) (by omega) h.2.2;unfold topC;omega
  omega)) s hs
set_option maxHeartbeats 4000000 in
theorem o_15q {k a w:Nat} (h:GoodS k a w) (s o:St) (hs:okQ (topC w) s) (ho:o.1≤topC w) (h7:o.1≤15):Eqn Tryz.prog o_ew [.d (parD k a w),.d (.agg (stD s)),.d (.agg (stD o))] [] (.mp 0) [spO (mgQ (topC w) k a s o)]:=by
 have h15:topC w≤15:=by have:=Nat.pow_le_pow_right (n:=2) (by omega) h.2.2;unfold topC;omega
 obtain ⟨G,hG,hG63,-,hc⟩:=o_15e h
 have hl:=o_126 k a w
 have hsu:=o_11z s
 have hfin:Eqn Tryz.prog o_ay [.mp 0,.fn (.func o_hq) [.p 1 0]] [spO (clQ (topC w) k a s o.1),SO o] (.mp 2) [spO (clQ (topC w) k a s o.1),SO o,spO (mgQ (topC w) k a s o)]:=by
  have hl:=o_14w (cl_uq s o.1) (o_15l (k:=k) (a:=a) hs o.1)
  exact o_150 (by decide) (fun _=>True) (clQ (topC w) k a s o.1) G (G^o.1) (80^o.1) (cl_uq s _) (fun _ _=>trivial) (cl_nz s _) (Nat.le_trans (List.length_filter_le _ _) (Nat.le_trans hl (by omega))) (Nat.le_trans hl (by omega)) (Nat.pow_pos hG) (Nat.pow_pos (by decide)) (cl_gr h hc hs _ (by omega)) hG (fun t _=>⟨o_15o _ _ _,o_15i t o⟩) (o_14y hG63 (by omega)).1
 have hro:∀r,r<o.1→Eqn Tryz.prog o_ay [.mp 0,.fn (.func o_hk) [.p 1 0,.p 2 0]] [spO (clQ (topC w) k a s r),PO k a w,RO (chP k a r)] (.mp 3) [spO (clQ (topC w) k a s r),PO k a w,RO (chP k a r),spO (clQ (topC w) k a s (r+1))]:=fun r hr=>by
  have hl:=o_14w (cl_uq s r) (o_15l (k:=k) (a:=a) hs r)
  exact o_151 (by decide) (by decide) (fun t=>okQ (topC w) t∧r≤t.1) (clQ (topC w) k a s r) G (G^r) (80^r) (cl_uq s _) (fun p hp=>cl_up h hs r (by omega) p (List.mem_filter.1 hp).1) (cl_nz s _) (Nat.le_trans (List.length_filter_le _ _) (Nat.le_trans hl (by omega))) (Nat.le_trans hl (by omega)) (Nat.pow_pos hG) (Nat.pow_pos (by decide)) (cl_gr h hc hs _ (by omega)) hG (fun t ht=>⟨o_15p h hc r t ht.1.1,o_15h h t ht.1.1 r ht.2 (by omega)⟩) (o_14y hG63 (by omega)).1
 have hch:∀r,r<o.1→Eqn Tryz.prog o_ed [.d (parD k a w),.d (.int .i64 r)] [] (.tup [.d (rD (chP k a r)),.d (.int .i64 0)]) []:=fun r hr=>o_124 h (by unfold topC at ho;omega)
 have hd0:clQ (topC w) k a s 0=[(s,1)]:=rfl
 rw [←hd0] at hsu
 obtain ⟨R,hR⟩:∃R,R=mgQ (topC w) k a s o:=⟨_,rfl⟩
 rw [←hR] at hfin ⊢
 obtain ⟨o1,o2,o3⟩:=o
 simp only at ho h7 hfin hro hch
 generalize topC w=W at *
 refine Eqn.gen [4] o_ey (by simp) (by simp) (by rfl) (by decide) (by simp) (by simp [spO]) ?_
 refine cc (c':=?z262) ?_ ?_
 case refine_1=>cbv<;>exact rfl
 try simp only [spO,stD,parD,PO,RO,SO,rD] at hl hsu hfin hro hch ⊢
 refine A00 ?_;try with_reducible exact tt
 refine CallS.nX (hsu) (R0 ?_);try with_reducible exact tt
 refine AW.loopG (α:=Nat) (fun i=>setS (List.replicate 32 .junk) [(3,.p 0 0),(5,.p 2 0),(7,.mp 3),(14,.d (.int .i64 o1)),(15,.d (.int .i64 (i:Nat)))]) (fun i=>[some ⟨62,[.d (.int .i64 k),.d (.int .i64 a),.d (.int .i64 w)]⟩,none,some ⟨64,[.d (.int .i64 o1),.d (.int .i64 o2),.d (.bool o3)]⟩,some ⟨1000391,(spD rcD (clQ W k a s i)).map .d⟩]) (fun i=>i≤o1) (fun i=>o1-i) 0 ?_ (Nat.zero_le _) ?_ ?_ ?_
 ·intro i hi;simp
 ·simp
 ·simp
 rintro i hi
 simp
 by_cases hi2:i<o1
 ·have hi3:(i:Int)<o1:=by omega
  have ew:IntKind.i64.wrap ((i:Int)+1)=((i+1:Nat):Int):=by rw [w64 (by omega) (by omega)];omega
  have ht:=hro i hi2
  have hci:=hch i hi2
  generalize natW (chP k a i).num.natAbs=Z0 at *
  generalize natW ((chP k a i).den-1)=Z2 at *
  generalize decide ((chP k a i).num<0)=Z1 at *
  refine A10 (fs hi2 hi3) ?_;try with_reducible exact tt
  refine CallS.pu (hl) (R0 ?_);try with_reducible exact tt
  refine CallS.pu (hci) (R0 ?_);try with_reducible exact tt
  refine A00 ?_;try with_reducible exact tt
  refine CallS.g [3,0,4] (ht) (R1 ew ?_);try with_reducible exact tt
  refine A10 ew ?_;try with_reducible exact tt
  refine ⟨i+1,3,5,by omega,by omega,by omega,?_,?_⟩
  ·simp [swT,swH,sw,Ob.sw,V.ren,V.rens]
  ·simp [swT,swH,sw,Ob.sw,V.ren,V.rens]
 ·have h2:i=o1:=by omega
  subst h2
  refine A00 ?_;try with_reducible exact tt
  refine CallS.g [3,2] (hfin) (R0 ?_);try with_reducible exact tt
  done
end
section
open Go.RowKit
def stsD (l:List St):List D:=l.flatMap stD
theorem o_15r (l:List St):(stsD l).length=l.length*3:=by
 unfold stsD
 induction l with
 | nil=>rfl
 | cons s l ih=>rw [List.flatMap_cons,List.length_append,ih];simp [stD];omega
theorem o_15s (l:List St) (i:Nat) (hi:i<l.length):((stsD l).drop (i*3)).take 3=[.int .i64 l[i].1,.int .i64 l[i].2.1,.bool l[i].2.2]:=o_6r (n:=3) (f:=stD) (fun _=>rfl) l i hi
theorem o_15t {k a w:Nat} (h:GoodR k a w) (l:List St) (hl:l.length≤1000000) (hw:∀s∈l,WellR k a w s.1 s.2.1 s.2.2):Eqn Tryz.prog o_hh [.d (.sl l.length (stsD l)),.fn (.func o_et) [.p 0 0]] [PO k a w] (.d (.int .i64 (-1))) [PO k a w]:=by
 refine Eqn.gen [0] o_hj (by simp) (by simp) (by rfl) (by decide) (by simp) (by simp [PO]) ?_
 have hw1:∀i (hi:i<l.length),Eqn Tryz.prog o_et [.d (.agg [.int .i64 l[i].1,.int .i64 l[i].2.1,.bool l[i].2.2]),.p 0 0] [PO k a w] (.d (.bool false)) [PO k a w]:=fun i hi=>o_14n h l[i] (hw _ (List.getElem_mem hi))
 have hlen:=o_15r l
 have hget:=o_15s l
 refine cc (c':=?z263) ?_ ?_
 case refine_1=>cbv<;>exact rfl
 try simp only [PO] at hw1 ⊢
 refine A00 ?_;try with_reducible exact tt
 refine AW.loopW (α:=Nat) (fun i=>setS (List.replicate 19 .junk) [(0,.d (.sl l.length (stsD l))),(1,.fn (.func o_et) [.p 0 0]),(7,.d (.int .i64 l.length)),(8,.d (.int .i64 (i:Nat)))]) (fun i=>[some ⟨62,[.d (.int .i64 k),.d (.int .i64 a),.d (.int .i64 w)]⟩]) (fun i=>i≤l.length) (fun i=>l.length-i) 1 (fun _=>rfl) (by simp) 0 (Nat.zero_le _) ?_ ?_ ?_
 ·simp
 ·simp
 rintro i hi
 simp
 by_cases hi2:i<l.length
 ·have hi3:(i:Int)<l.length:=by omega
  have ew:IntKind.i64.wrap ((i:Int)+1)=((i+1:Nat):Int):=by rw [w64 (by omega) (by omega)];omega
  have h1:=hw1 i hi2
  have hg:=hget i hi2
  have hb6:i*3+3≤l.length*3:=by omega
  have hb7:i*3<l.length*3:=by omega
  refine A10 (fs hi2 (fs hi3 (fs hlen (fs hg (fs hb6 hb7))))) ?_;try with_reducible exact tt
  refine CallS.g [0] (h1) (R0 ?_);try with_reducible exact tt
  refine A10 ew ?_;try with_reducible exact tt
  exact ⟨i+1,by omega,by omega,Sub1.refl _⟩
 ·have h2:i=l.length:=by omega
  subst h2
  refine A00 ?_;try with_reducible exact tt
theorem o_15u {k a w:Nat} (h:GoodR k a w) (l:List St) (hl:l.length≤1000000) (hw:∀s∈l,WellR k a w s.1 s.2.1 s.2.2):Eqn Tryz.prog o_eq [.d (.sl l.length (stsD l)),.fn (.func o_et) [.p 0 0]] [PO k a w] (.d (.bool false)) [PO k a w]:=by
 refine Eqn.gen [0] o_es (by simp) (by simp) (by rfl) (by decide) (by simp) (by simp [PO]) ?_
 have hi:=o_15t h l hl hw
 refine cc (c':=?z264) ?_ ?_
 case refine_1=>cbv<;>exact rfl
 try simp only [PO] at hi ⊢
 refine A00 ?_;try with_reducible exact tt
 refine CallS.g [0] (hi) (R0 ?_);try with_reducible exact tt
theorem o_15v {k a w:Nat} (h:GoodR k a w) (l:List St) (hl:l.length≤1000000) (hw:∀s∈l,WellR k a w s.1 s.2.1 s.2.2):Eqn Tryz.prog o_ap [.d (parD k a w),.d (.sl l.length (stsD l))] [] (.d (.int .i64 0)) []:=by
 refine Eqn.pure o_ar Plain.ok ?_
 have hc:=o_wm h
 have hi:=o_15u h l hl hw
 refine cc (c':=?z265) ?_ ?_
 case refine_1=>cbv<;>exact rfl
 try simp only [PO,parD] at hc hi ⊢
 refine A00 ?_;try with_reducible exact tt
 refine CallS.pu (hc) (R0 ?_);try with_reducible exact tt
 refine A00 ?_;try with_reducible exact tt
 refine CallS.g [0] (hi) (R0 ?_);try with_reducible exact tt
 refine A00 ?_;try with_reducible exact tt
theorem o_15w {k a w:Nat} (h:GoodR k a w) (hk:k≠4) (hw4:w≤4) (l:List St) (hl:l.length≤1000000) (hw:∀s∈l,WellR k a w s.1 s.2.1 s.2.2):Eqn Tryz.prog o_ag [.d (parD k a w),.d (.sl l.length (stsD l))] [] (.d (.int .i64 0)) []:=by
 refine Eqn.pure o_ai Plain.ok ?_
 have h1:=o_15v h l hl hw
 have h2:=o_14r (a:=a) hk (show w≤10 by omega)
 have h16:2^w≤16:=Nat.pow_le_pow_right (n:=2) (by omega) hw4
 generalize 2^w=W at *
 have e1:IntKind.i64.wrap (4*(W:Int))=4*(W:Int):=w64 (by omega) (by omega)
 have e2:¬512<4*(W:Int):=by omega
 refine cc (c':=?z266) ?_ ?_
 case refine_1=>cbv<;>exact rfl
 try simp only [parD] at h1 h2 ⊢
 refine A00 ?_;try with_reducible exact tt
 refine CallS.pu (h1) (R0 ?_);try with_reducible exact tt
 refine A00 ?_;try with_reducible exact tt
 refine CallS.pu (h2) (R1 (fs e1 e2) ?_);try with_reducible exact tt
 refine A10 (fs e1 e2) ?_;try with_reducible exact tt
theorem o_15x {k a w:Nat} (h:GoodS k a w) (s o:St) (hs:okQ (topC w) s) (ho:o.1≤topC w) (h7:o.1≤15):Eqn Tryz.prog o_b4 [.d (parD k a w),.d (.agg (stD s)),.d (.agg (stD o))] [] (.mp 0) [spO (mgQ (topC w) k a s o)]:=by
 have hc:=o_15q h s o hs ho h7
 have hk4:¬(k:Int)=4:=by have:=h.1;omega
 have hk4':¬k=4:=by have:=h.1;omega
 generalize mgQ (topC w) k a s o=R at *
 refine Eqn.gen [3] o_b6 (by simp) (by simp) (by rfl) (by decide) (by simp) (by simp [spO]) ?_
 refine cc (c':=?z267) ?_ ?_
 case refine_1=>cbv<;>exact rfl
 try simp only [spO,stD,parD] at hc ⊢
 refine A10 (fs hk4 hk4') ?_;try with_reducible exact tt
 refine CallS.nX (hc) (R0 ?_);try with_reducible exact tt
end
section
open Go.RowKit
def psum (L:Sp) (i:Nat):Rat:=(L.take i).foldl (fun x p=>x+p.2) 0
theorem o_15y (L:Sp) (i:Nat) (h:i<L.length):psum L (i+1)=psum L i+L[i].2:=by
 unfold psum;rw [List.take_add_one,List.getElem?_eq_getElem h,Option.toList,List.foldl_append];rfl
theorem o_15z {x:Rat} (h:0<x):cmpQ x 0=1:=by
 unfold cmpQ
 rw [if_neg (Rat.not_lt.2 (Rat.le_of_lt h)),if_pos h]
set_option maxHeartbeats 4000000 in
theorem o_160 {k a w:Nat} (h:GoodR k a w) (L:Sp) (hl:L.length≤1000000) (hw:∀p∈L,WellR k a w p.1.1 p.1.2.1 p.1.2.2) (hpos:∀p∈L,0<p.2) (hs:∀i (h:i+1<L.length),ltS (L[i]).1 (L[i+1]).1=true) (hrs:∀p∈L,RS p.2 100000) (hsum:∀i,i≤L.length→RS (psum L i) 100000) (h1:psum L L.length=1):Eqn Tryz.prog o_8m [.d (parD k a w),.d (.sl L.length (spD rcD L))] [] (.d (.bool true)) []:=by
 refine Eqn.pure o_8o Plain.ok ?_
 have ho0:=rof0
 have ho1:=rof1
 have hLl:=o_102 rcD (fun _=>rfl) L
 have hget:=o_14l L
 have hfin:=o_va 1 1 (o_11w.le (by omega)) (o_11w.le (by omega))
 have hfc:cmpQ 1 1=0:=by unfold cmpQ;simp [Rat.lt_irrefl]
 rw [hfc] at hfin
 have hz:psum L 0=0:=rfl
 have hz2:RS (0:Rat) 100000:=⟨by decide,by decide⟩
 refine cc (c':=?z268) ?_ ?_
 case refine_1=>cbv<;>exact rfl
 try simp only [parD,rD_rc] at ho0 ho1 hfin ⊢
 rw [←h1] at hfin ho1
 refine A00 ?_;try with_reducible exact tt
 refine CallS.pu (ho0) (R0 ?_);try with_reducible exact tt
 refine A00 ?_;try with_reducible exact tt
 refine AW.loopW (α:=Nat) (fun i=>setS (List.replicate 84 .junk) [(1,.d (.sl L.length (spD rcD L))),(2,.p 0 0),(5,.p 1 0),(11,.d (.sl L.length (spD rcD L))),(12,.d (.int .i64 L.length)),(13,.d (.int .i64 (i:Nat)))]) (fun i=>[some ⟨62,[.d (.int .i64 k),.d (.int .i64 a),.d (.int .i64 w)]⟩,some ⟨47,(rcD (psum L i)).map .d⟩]) (fun i=>i≤L.length) (fun i=>L.length-i) 2 (fun _=>rfl) (by simp) 0 (Nat.zero_le _) ?_ ?_ ?_
 ·simp
 ·simp [hz,rcD]
 rintro i hi
 simp
 by_cases hi2:i<L.length
 ·have hi3:(i:Int)<L.length:=by omega
  have ew:IntKind.i64.wrap ((i:Int)+1)=((i+1:Nat):Int):=by rw [w64 (by omega) (by omega)];omega
  obtain ⟨s1,s2,s3,q,N1,N2,N3,hp,hN,hg⟩:=hget i hi2
  have hwi:=hw _ (List.getElem_mem hi2)
  have hpi:=hpos _ (List.getElem_mem hi2)
  have hri:=hrs _ (List.getElem_mem hi2)
  have hnx:=o_15y L i hi2
  have hsi:=hsum i hi
  have hsd:=hs (i-1)
  rw [hp] at hwi hpi hri hnx
  simp only at hwi hpi hri hnx
  have hwl:=o_wo h s1 s2 s3
  rw [o_wn.2 hwi] at hwl
  have hcm:=o_va q 0 hri hz2
  rw [o_15z hpi] at hcm
  have had:=o_v8 (psum L i) q hsi hri
  rw [←hnx] at had
  have hb6:i*6+6≤L.length*6:=by omega
  have hb7:i*6<L.length*6:=by omega
  simp only [rD_rc,parD,tsD] at hwl hcm had
  rw [hN] at hcm had
  have e3:(rcD (psum L i)).length=3:=rfl
  obtain ⟨A1,A2,A3,hA⟩:∃A1 A2 A3,rcD (psum L i)=[A1,A2,A3]:=⟨_,_,_,rfl⟩
  obtain ⟨B1,B2,B3,hB⟩:∃B1 B2 B3,rcD (psum L (i+1))=[B1,B2,B3]:=⟨_,_,_,rfl⟩
  rw [hA,hB] at had
  obtain ⟨O1,O2,O3,hO⟩:∃O1 O2 O3,rcD 0=[O1,O2,O3]:=⟨_,_,_,rfl⟩
  rw [hO] at hcm ho0
  rw [hA]
  refine A10 (fs hi2 (fs hi3 (fs hLl (fs hg (fs hb6 hb7))))) ?_;try with_reducible exact tt
  refine CallS.pu (hwl) (R0 ?_);try with_reducible exact tt
  refine CallS.pu (ho0) (R0 ?_);try with_reducible exact tt
  refine CallS.pu (hcm) (R0 ?_);try with_reducible exact tt
  refine A00 ?_;try with_reducible exact tt
  refine CallS.pu (had) (R0 ?_);try with_reducible exact tt
  by_cases h0:(i:Int)=0
  ·refine A10 (fs ew h0) ?_;try with_reducible exact tt
   have hi0:i=0:=by omega
   refine ⟨i+1,by omega,by omega,?_,?_⟩
   ·rw [hi0];exact Sub1.refl _
   ·rw [hB];exact Subs.refl _
  ·obtain ⟨j,rfl⟩:∃j,i=j+1:=⟨i-1,by omega⟩
   have h0':¬j+1=0:=by omega
   have ej:IntKind.i64.wrap (((j+1:Nat):Int)-1)=(j:Int):=by rw [w64 (by omega) (by omega)];omega
   have hj:j<L.length:=by omega
   have hj3:(j:Int)<L.length:=by omega
   obtain ⟨r1,r2,r3,q',M1,M2,M3,hpj,hM,hgj⟩:=hget j hj
   have hst:=hs j hi2
   rw [hp,hpj] at hst
   have hc6:j*6+6≤L.length*6:=by omega
   have hc7:j*6<L.length*6:=by omega
   refine AW.cond rfl (fun hh=>?_) (fun hh=>?_)
   ·simp at hh;omega
   refine AW.skip ?_
   have hg3:List.take 3 (List.drop (j*6) (spD rcD L))=[.int .i64 r1,.int .i64 r2,.bool r3]:=by
    have:=congrArg (List.take 3) hgj
    rw [List.take_take] at this
    simpa using this
   have hg3m:List.take 3 (List.drop (j*6) ((spD rcD L).map V.d))=[.d (.int .i64 r1),.d (.int .i64 r2),.d (.bool r3)]:=by
    rw [←List.map_drop,←List.map_take,hg3];rfl
   refine A10 (fs ej (fs hc6 (fs hc7 (fs hj (fs hj3 hLl))))) ?_;try with_reducible exact tt
   simp only [Int.toNat_natCast,hg3,hg3m]
   simp
   have hor:(r1<s1∧¬s1<r1∧¬r1=s1)∨(r1=s1∧((r2<s2∧¬s2<r2∧¬r2=s2)∨(r2=s2∧r3=false∧s3=true))):=by
    unfold ltS at hst
    simp only [Bool.or_eq_true,Bool.and_eq_true,decide_eq_true_eq,Bool.not_eq_true'] at hst
    rcases hst with g | ⟨g,g' | ⟨g',g3,g4⟩⟩
    ·exact .inl ⟨g,by omega,by omega⟩
    ·exact .inr ⟨g,.inl ⟨g',by omega,by omega⟩⟩
    ·exact .inr ⟨g,.inr ⟨g',g3,g4⟩⟩
   clear hst
   rcases hor with ⟨g1,g2,g3⟩ | ⟨rfl,⟨g1,g2,g3⟩ | ⟨rfl,rfl,rfl⟩⟩
   ·have g4:¬(s1:Int)<r1:=by omega
    have g5:¬(r1:Int)=s1:=by omega
    refine A10 (fs g2 (fs g3 (fs g4 (fs g5 ew)))) ?_;try with_reducible exact tt
    exact ⟨j+1+1,by omega,by omega,Sub1.refl _,by rw [hB];exact Subs.refl _⟩
   ·have g4:¬(s2:Int)<r2:=by omega
    have g5:¬(r2:Int)=s2:=by omega
    refine A10 (fs g2 (fs g3 (fs g4 (fs g5 ew)))) ?_;try with_reducible exact tt
    exact ⟨j+1+1,by omega,by omega,Sub1.refl _,by rw [hB];exact Subs.refl _⟩
   ·refine A10 ew ?_;try with_reducible exact tt
    exact ⟨j+1+1,by omega,by omega,Sub1.refl _,by rw [hB];exact Subs.refl _⟩
 ·have h2:i=L.length:=by omega
  subst h2
  obtain ⟨C1,C2,C3,hC⟩:∃C1 C2 C3,rcD (psum L L.length)=[C1,C2,C3]:=⟨_,_,_,rfl⟩
  rw [hC] at ho1 hfin ⊢
  refine A00 ?_;try with_reducible exact tt
  refine CallS.pu (ho1) (R0 ?_);try with_reducible exact tt
  refine CallS.pu (hfin) (R0 ?_);try with_reducible exact tt
end
section
open Go.RowKit
theorem o_161 {top k i:Nat} {l:Sp} (hu:Uq l) (h:kyQ (reach top k i) l):l.length≤top+2:=by
 have h1:(l.map (·.1)).length≤((top,0,true)::(List.range (top+1)).map fun j=>(j,0,false):List St).length:=by
  refine List.Nodup.length_le_of_subset hu fun t ht=>?_
  obtain ⟨p,hp,rfl⟩:=List.mem_map.1 ht
  rcases h p hp with e | ⟨e,e1,e2,e3⟩
  ·rw [e];simp
  ·refine List.mem_cons_of_mem _ (List.mem_map.2 ⟨p.1.1,List.mem_range.2 (by omega),?_⟩)
   rw [←e]
 simpa using h1
theorem o_162 {G top:Nat} {c:Nat→Rat} (h7:top≤15) (h0:∀k,k<top→0≤c k) (h1:∀k,k<top→c k≤1) (hc:∀x,x<top→Gr G 1 (c x)) {s:St} (hs:okQ top s):∀n,∀p∈ofQ (stepQ top c) s n,Gr (G^n) (80^n) p.2
 | 0=>fun p hp=>by
  simp [ofQ] at hp;subst hp
  exact Gr.one _
 | n+1=>by
  have ih:=o_162 h7 h0 h1 hc hs n
  have hl:=o_161 (of_uq _ s n) (o_14v (c:=c) hs n)
  have hA:(atQ (ofQ (stepQ top c) s n)).length≤40:=Nat.le_trans (o_14j _) (by omega)
  have hm:∀p∈atQ (ofQ (stepQ top c) s n),p∈ofQ (stepQ top c) s n:=fun p hp=>(List.mem_filter.1 ((o_10j _).mem_iff.1 hp)).1
  have:=o_14g (D:=G^n) (E:=G) (B:=80^n) (J:=2) (next:=stepQ top c) (A:=atQ (ofQ (stepQ top c) s n)) (fun p hp=>ih p (hm p hp)) (fun p hp=>⟨o_14k hc p.1 (ok_of h0 h1 hs n p (hm p hp)).1.1,Nat.le_trans (o_14j _) (o_14i _ _ _)⟩) _ (Nat.le_refl _)
  rw [o_14d] at this
  intro p hp
  rw [Nat.pow_succ]
  refine (this p hp).le ?_
  rw [Nat.pow_succ,Nat.mul_comm (80^n) 80]
  exact Nat.mul_le_mul_right _ (by omega)
theorem o_163 {G n:Nat} (hG:G≤2^63) (hn:n≤100):size (80*80^n*(G^n*G))≤100000∧size (80^n*G^n)≤100000:=by
 have h1:size G≤1:=o_oi (Nat.lt_of_le_of_lt hG (by decide))
 have h2:size 80≤1:=o_oi (by decide)
 have a1:=o_14x 80 h2 n
 have a2:=o_14x G h1 n
 have a3:=o_ut (80*80^n) (G^n*G)
 have a4:=o_ut 80 (80^n)
 have a5:=o_ut (G^n) G
 have a6:=o_ut (80^n) (G^n)
 omega
set_option maxHeartbeats 4000000 in
theorem o_164 {k a w:Nat} (h:GoodS k a w) (w3:w≤4) (s:St) (hw:WellR k a w s.1 s.2.1 s.2.2) (hs:okQ (topC w) s) (n:Nat) (hn:n≤15):Eqn Tryz.prog o_8g [.d (parD k a w),.d (.agg (stD s)),.d (.int .i64 n)] [] (.tup [.d (.sl (atQ (dstQ k a w s n)).length (spD rcD (atQ (dstQ k a w s n)))),.d (.int .i64 0)]) []:=by
 refine Eqn.pure o_8i Plain.ok ?_
 have hk4:k≠4:=by have:=h.1;omega
 have w4:=h.2.2
 have hg:GoodR k a w:=.inr ⟨hk4,o_w4 h⟩
 have h15:topC w≤15:=by have:=Nat.pow_le_pow_right (n:=2) (by omega) h.2.2;unfold topC;omega
 have hwr:=o_14q hg s hw
 have hst:=o_14r (a:=a) hk4 (show w≤10 by omega)
 have hsu:=o_11z s
 obtain ⟨c0,c1⟩:=o_14z h
 obtain ⟨G,hG,hG63,hc⟩:=o_14a h
 have h16:2^w≤16:=Nat.pow_le_pow_right (n:=2) (by omega) w3
 have h7:topC w≤15:=by unfold topC;omega
 have hti:∀i,i≤14→Eqn Tryz.prog o_ay [.mp 0,.fn (.func o_b1) [.p 1 0]] [spO (dstQ k a w s i),PO k a w] (.mp 2) [spO (dstQ k a w s i),PO k a w,spO (dstQ k a w s (i+1))]:=fun i hi=>by
  have hl:=o_161 (of_uq _ s i) (o_14v (c:=chP k a) hs i)
  exact o_14m h (dstQ k a w s i) G (G^i) (80^i) (of_uq _ s i) (ok_of c0 c1 hs i) (nz_of s i) (Nat.le_trans (List.length_filter_le _ _) (Nat.le_trans hl (by omega))) (Nat.le_trans hl (by omega)) (Nat.pow_pos hG) (Nat.pow_pos (by decide)) (o_162 h7 c0 c1 (fun x hx=>hc x (by omega)) hs i) hG hc (o_163 hG63 (by omega)).1
 have hat:Eqn Tryz.prog o_am [.mp 0] [spO (dstQ k a w s n)] (.d (.sl (atQ (dstQ k a w s n)).length (spD rcD (atQ (dstQ k a w s n))))) [spO (dstQ k a w s n)]:=by
  have hl:=o_161 (of_uq _ s n) (o_14v (c:=chP k a) hs n)
  exact o_142 _ (of_uq _ s n) (nz_of s n) (Nat.le_trans (List.length_filter_le _ _) (Nat.le_trans hl (by omega))) (Nat.le_trans hl (by omega)) (fun p hp=>(o_162 h7 c0 c1 (fun x hx=>hc x (by omega)) hs n p hp).rs (Nat.pow_pos hG) (Nat.pow_pos (by decide)) (o_163 hG63 (by omega)).2)
 have hd0:dstQ k a w s 0=[(s,1)]:=rfl
 rw [←hd0] at hsu
 have e1:IntKind.i64.wrap ((n:Int)+1)=((n+1:Nat):Int):=by rw [w64 (by omega) (by omega)];omega
 obtain ⟨W,hW⟩:∃W,W=2^w:=⟨_,rfl⟩
 rw [←hW] at hst h16
 have hmul:(n+1)*W≤16*16:=Nat.mul_le_mul (by omega) h16
 have e2:IntKind.i64.wrap (((n+1:Nat):Int)*(W:Int))=(((n+1)*W:Nat):Int):=by rw [←Int.natCast_mul];exact w64 (by omega) (by omega)
 obtain ⟨M,hM⟩:∃M,M=(n+1)*W:=⟨_,rfl⟩
 rw [←hM] at e2 hmul
 obtain ⟨n1,hn1⟩:∃n1,n1=n+1:=⟨_,rfl⟩
 rw [←hn1] at e1 e2
 have g1:¬(n:Int)<0:=by omega
 have g2:¬(64:Int)<n:=by omega
 have g3:¬(512:Int)<M:=by omega
 have g4:¬512<M:=by omega
 have g5:¬64<n:=by omega
 generalize hA:atQ (dstQ k a w s n)=A at *
 refine cc (c':=?z269) ?_ ?_
 case refine_1=>cbv<;>exact rfl
 try simp only [stD,parD,spO,PO] at hwr hst hsu hti hat ⊢
 refine A00 ?_;try with_reducible exact tt
 refine CallS.pf 2 3 ⟨64,[.d (.int .i64 s.1),.d (.int .i64 s.2.1),.d (.bool s.2.2)]⟩ [.int .i64 s.1,.int .i64 s.2.1,.bool s.2.2] (hwr) (by first | rfl | (simp [g1,g2,g5];done)) (R1 (fs g1 (fs g2 g5)) ?_);try with_reducible exact tt
 refine A10 (fs g1 (fs g2 (fs g5 e1))) ?_;try with_reducible exact tt
 refine CallS.pu (hst) (R1 (fs e2 (fs g3 g4)) ?_);try with_reducible exact tt
 refine A10 (fs e2 (fs g3 g4)) ?_;try with_reducible exact tt
 refine CallS.nX (hsu) (R0 ?_);try with_reducible exact tt
 refine AW.loopG (α:=Nat) (fun i=>setS (List.replicate 43 .junk) [(3,.p 0 0),(9,.mp 3),(34,.d (.int .i64 n)),(35,.d (.int .i64 (i:Nat)))]) (fun i=>[some ⟨62,[.d (.int .i64 k),.d (.int .i64 a),.d (.int .i64 w)]⟩,none,none,some ⟨1000391,(spD rcD (dstQ k a w s i)).map .d⟩]) (fun i=>i≤n) (fun i=>n-i) 0 ?_ (Nat.zero_le _) ?_ ?_ ?_
 ·intro i hi;simp
 ·simp
 ·simp
 rintro i hi
 simp
 by_cases hi2:i<n
 ·have hi3:(i:Int)<n:=by omega
  have ew:IntKind.i64.wrap ((i:Int)+1)=((i+1:Nat):Int):=by rw [w64 (by omega) (by omega)];omega
  have ht:=hti i (by omega)
  refine A10 (fs hi2 hi3) ?_;try with_reducible exact tt
  refine CallS.g [3,0] (ht) (R1 ew ?_);try with_reducible exact tt
  refine A10 ew ?_;try with_reducible exact tt
  refine ⟨i+1,3,4,by omega,by omega,by omega,?_,?_⟩
  ·simp [swT,swH,sw,Ob.sw,V.ren,V.rens]
  ·simp [swT,swH,sw,Ob.sw,V.ren,V.rens]
 ·have h2:i=n:=by omega
  subst h2
  refine A00 ?_;try with_reducible exact tt
  refine CallS.g [3] (hat) (R0 ?_);try with_reducible exact tt
  done
end
section
open Go.RowKit
theorem o_165 {top:Nat} {t:St} (h:okQ top t):reach top 0 top t:=by
 obtain ⟨a,b,f⟩:=t
 obtain ⟨h1,h2,h3⟩:=h
 simp only at h1 h2 h3
 subst h2
 cases f with
 | false=>exact .inr ⟨rfl,Nat.zero_le _,by simp only;omega,h1⟩
 | true=>left;rw [h3 rfl]
theorem o_166 {top:Nat} {l:Sp} (hu:Uq l) (h:oklQ top l):l.length≤top+2:=o_161 hu (k:=0) (i:=top) fun p hp=>o_165 (h p hp).1
theorem mg_uq {top k a:Nat} (s o:St):Uq (mgQ top k a s o):=o_10q _ _
theorem o_167 {top k a:Nat} (s o:St):exQ (fun _=>1) (mgQ top k a s o)=1:=by
 unfold mgQ
 rw [o_10r]
 have:(fun t=>exQ (fun _=>(1:Rat)) (fullQ o.2.2 t))=fun _=>1:=by
  funext t
  unfold fullQ
  simp only [exQ];grind
 rw [this,o_15k]
theorem o_168 {l:Sp} (h2:exQ (fun _=>1) l=1):nzQ l≠[]:=by
 intro h
 have h3:=ex_nz (fun _=>(1:Rat)) l
 rw [show l.filter (fun p=>decide (p.2≠0))=nzQ l from rfl,h] at h3
 rw [h2] at h3
 exact absurd h3 (by decide)
theorem mg_nz {top k a:Nat} (s o:St):nzQ (mgQ top k a s o)≠[]:=o_168 (o_167 s o)
theorem o_169 {next:St→Sp} {l:Sp} (hn:∀p∈l,∀q∈next p.1,0≤q.2) (h:∀p∈l,0≤p.2):∀p∈timesQ next l,0≤p.2:=by
 have hget:∀(l:Sp) (s:St),(∀p∈l,0≤p.2)→0≤getQ l s:=by
  intro l s
  induction l with
  | nil=>intro _;exact Rat.le_refl
  | cons p l ih =>
   intro h
   unfold getQ
   split
   ·exact h p (by simp)
   ·exact ih fun q hq=>h q (by simp [hq])
 have hin:∀(q:Rat) (k out:Sp),0≤q→(∀p∈out,0≤p.2)→(∀p∈k,0≤p.2)→∀p∈innQ q out k,0≤p.2:=by
  intro q k
  induction k with
  | nil=>intro out _ h _;exact h
  | cons b k ih =>
   intro out hq ho hk
   refine ih (addQ out b.1 (q*b.2)) hq (fun p hp=>?_) fun p hp=>hk p (by simp [hp])
   rcases o_10u hp with hp | rfl
   ·exact ho p hp
   ·have h1:=hget out b.1 ho
    have h2:=Rat.mul_nonneg hq (hk b (by simp))
    show 0≤getQ out b.1+q*b.2
    grind
 have key:∀(k out:Sp),(∀p∈out,0≤p.2)→(∀p∈k,0≤p.2∧∀q∈next p.1,0≤q.2)→∀p∈k.foldl (fun out a=>innQ a.2 out (atQ (next a.1))) out,0≤p.2:=by
  intro k
  induction k with
  | nil=>intro out h _;exact h
  | cons a k ih =>
   intro out ho hk
   obtain ⟨h1,h2⟩:=hk a (by simp)
   exact ih _ (hin _ _ _ h1 ho fun p hp=>h2 p (List.mem_filter.1 ((o_10j _).mem_iff.1 hp)).1) fun p hp=>hk p (by simp [hp])
 refine key _ _ (fun p hp=>by cases hp) fun p hp=>?_
 have hp':=(List.mem_filter.1 ((o_10j l).mem_iff.1 hp)).1
 exact ⟨h p hp',hn p hp'⟩
theorem mg_ok {k a w:Nat} (h:GoodS k a w) {s o:St} (hs:okQ (topC w) s) (ho:okQ (topC w) o):oklQ (topC w) (mgQ (topC w) k a s o):=by
 have hup:=cl_up h hs o.1 ho.1
 have h1:kyQ (okQ (topC w)) (mgQ (topC w) k a s o):=by
  refine o_15j (P:=fun t=>okQ (topC w) t∧o.1≤t.1) (fun t ht p hp=>?_) hup
  have hp1:p∈fullQ o.2.2 t:=(List.mem_filter.1 hp).1
  simp [fullQ] at hp1
  subst hp1
  obtain ⟨⟨a1,a2,a3⟩,a4⟩:=ht
  refine ⟨a1,a2,fun hf=>?_⟩
  simp only [Bool.or_eq_true] at hf
  rcases hf with hf | hf
  ·exact a3 hf
  ·have:=ho.2.2 hf
   show t.1=topC w
   omega
 have h2:∀p∈mgQ (topC w) k a s o,0≤p.2:=o_169 (fun p hp q hq=>by
  simp [fullQ] at hq;subst hq
  exact (by decide:(0:Rat)≤1)) fun p hp=>(cl_ok h hs o.1 p hp).2
 exact fun p hp=>⟨h1 p hp,h2 p hp⟩
theorem mg_gr {k a w G:Nat} (h:GoodS k a w) (hc:∀r x,x≤15→Gr G 1 (ratC k a r x)) {s o:St} (hs:okQ (topC w) s) (ho:o.1≤15):∀p∈mgQ (topC w) k a s o,Gr (G^o.1*G) (80*80^o.1) p.2:=by
 have hl:=o_14w (cl_uq s o.1) (o_15l (k:=k) (a:=a) hs o.1)
 have hA:(atQ (clQ (topC w) k a s o.1)).length≤40:=Nat.le_trans (o_14j _) (by omega)
 have hm:∀p∈atQ (clQ (topC w) k a s o.1),p∈clQ (topC w) k a s o.1:=fun p hp=>(List.mem_filter.1 ((o_10j _).mem_iff.1 hp)).1
 have:=o_14g (D:=G^o.1) (E:=G) (B:=80^o.1) (J:=2) (next:=fullQ o.2.2) (A:=atQ (clQ (topC w) k a s o.1)) (fun p hp=>cl_gr h hc hs o.1 (by omega) p (hm p hp)) (fun p hp=>⟨(o_15o o.2.2 G p.1).gr,Nat.le_trans (o_14j _) (o_15o o.2.2 G p.1).len⟩) _ (Nat.le_refl _)
 rw [o_14d] at this
 intro p hp
 exact (this p hp).le (Nat.mul_le_mul_right _ (by omega))
theorem o_16a {k a w:Nat} (h:GoodS k a w) {o:St} (h1:o.1≤15) {s:St} (hs:okQ (topC w) s) (ho:okQ (topC w) o):Eqn Tryz.prog o_am [.mp 0] [spO (mgQ (topC w) k a s o)] (.d (.sl (atQ (mgQ (topC w) k a s o)).length (spD rcD (atQ (mgQ (topC w) k a s o))))) [spO (mgQ (topC w) k a s o)]:=by
 have h8:2^w≤16:=Nat.pow_le_pow_right (n:=2) (by omega) h.2.2
 have h7:topC w≤15:=by unfold topC;omega
 obtain ⟨G,hG,hG63,-,hc⟩:=o_15e h
 have hl:=o_166 (mg_uq (top:=topC w) (k:=k) (a:=a) s o) (mg_ok h hs ho)
 refine o_142 _ (mg_uq s o) (mg_nz s o) (Nat.le_trans (List.length_filter_le _ _) (by omega)) (by omega) fun p hp=>(mg_gr h hc hs (by omega) p hp).rs (Nat.mul_pos (Nat.pow_pos hG) hG) (Nat.mul_pos (by decide) (Nat.pow_pos (by decide))) (o_163 hG63 (by omega)).1
end
section
open Go.RowKit
theorem Gr.scale {D B:Nat} {q:Rat} (E:Nat) (h:Gr D B q):Gr (D*E) B q:=by
 obtain ⟨z,h1,h2⟩:=h
 refine ⟨z*E,?_,?_⟩
 ·have e1:((z*E:Nat):Rat)=(z:Rat)*(E:Rat):=by simp
  have e2:((D*E:Nat):Rat)=(D:Rat)*(E:Rat):=by simp
  rw [e1,e2,←h1];grind
 ·rw [←Nat.mul_assoc];exact Nat.mul_le_mul_right _ h2
end
section
open Go.RowKit
theorem o_16b {l:Sp} (hu:Uq l) (i:Nat) (hi:i+1<(atQ l).length):ltS (atQ l)[i].1 (atQ l)[i+1].1=true:=by
 have h2:(atQ l).Pairwise fun a b=>leP a b=true:=List.pairwise_mergeSort o_10h o_10i _
 have h3:=List.pairwise_iff_getElem.1 h2 i (i+1) (by omega) hi (Nat.lt_succ_self _)
 have hua:Uq (atQ l):=uq_at hu
 have hne:(atQ l)[i].1≠(atQ l)[i+1].1:=by
  unfold Uq at hua
  have h4:=List.pairwise_iff_getElem.1 hua i (i+1) (by simp;omega) (by simpa using hi) (Nat.lt_succ_self _)
  simpa using h4
 unfold leP at h3
 simp only [Bool.not_eq_true'] at h3
 rcases o_10g (atQ l)[i].1 (atQ l)[i+1].1 with h | h | h
 ·exact h
 ·exact absurd h hne
 ·rw [h] at h3;cases h3
theorem o_16c (L:Sp):psum L L.length=exQ (fun _=>1) L:=by
 have key:∀(L:Sp) (x:Rat),L.foldl (fun x p=>x+p.2) x=x+exQ (fun _=>1) L:=by
  intro L
  induction L with
  | nil=>intro x;simp only [List.foldl_nil,exQ];grind
  | cons p L ih=>intro x;rw [List.foldl_cons,ih];simp only [exQ];grind
 unfold psum
 rw [List.take_length,key];grind
theorem o_16d {D B:Nat} {L:Sp} (h:∀p∈L,Gr D B p.2):∀i,i≤L.length→Gr D (i*B) (psum L i)
 | 0,_=>by simpa [psum] using Gr.zero D (0*B)
 | i+1,hi=>by
  have hi':i<L.length:=hi
  rw [o_15y L i hi']
  have:=(o_16d h i (by omega)).add (h L[i] (List.getElem_mem hi'))
  rwa [Nat.add_mul,Nat.one_mul]
end
section
open Go.RowKit
theorem o_16e (n:Nat) (h0:0<n) (hn:n≤100000):Eqn Tryz.prog o_ft [.d .nilsl,.d (.int .i64 n)] [] (.own 0 6 0) [⟨75,[]⟩]:=by
 refine Eqn.gen [0] o_fv (by simp) (by simp) (by rfl) (by decide) (by simp) (by simp) ?_
 refine cc (c':=?z270) ?_ ?_
 case refine_1=>cbv<;>exact rfl
 have g1:¬(n:Int)<0:=by omega
 have g2:(0:Int)<n:=by omega
 have e0:IntKind.i64.wrap 0=0:=w64 (by omega) (by omega)
 have e1:IntKind.i64.wrap (0-0)=0:=w64 (by omega) (by omega)
 have e2:IntKind.i64.wrap ((n:Int)-0)=n:=by rw [w64 (by omega) (by omega)];omega
 have e3:IntKind.i64.wrap (n:Int)=n:=w64 (by omega) (by omega)
 refine A10 (fs g1 (fs g2 (fs h0 (fs e0 (fs e1 (fs e2 e3)))))) ?_;try with_reducible exact tt
theorem o_16f (la lb:Nat) (A B:List D) (ha:A.length=la*6) (hb:B.length=lb*6) (h0:0<la) (h1:0<lb) (hla:la≤1000) (hlb:lb≤1000):Eqn Tryz.prog o_cm [.d (.sl 2 [.sl la A,.sl lb B])] [] (.own 0 6 (la+lb)) [⟨75,(A++B).map .d⟩]:=by
 refine Eqn.gen [2] o_co (by simp) (by simp) (by rfl) (by decide) (by simp) (by intro ob h;simp only [List.mem_singleton] at h;subst h;exact o_62 _ _) ?_
 refine cc (c':=?z271) ?_ ?_
 case refine_1=>cbv<;>exact rfl
 have hg:=o_16e (la+lb) (by omega) (by omega)
 have e1:IntKind.i64.wrap (0+(la:Int))=la:=by rw [w64 (by omega) (by omega)];omega
 have e1':IntKind.i64.wrap (la:Int)=la:=w64 (by omega) (by omega)
 have e2:IntKind.i64.wrap ((la:Int)+lb)=((la+lb:Nat):Int):=by rw [w64 (by omega) (by omega)];omega
 have g1:¬(la:Int)<0:=by omega
 have g2:¬((la+lb:Nat):Int)<0:=by omega
 have l0:la≠0:=by omega
 have l1:lb≠0:=by omega
 obtain ⟨n,hn⟩:∃n,n=la+lb:=⟨_,rfl⟩
 rw [←hn] at hg e2 g2 ⊢
 have w1:IntKind.i64.wrap (0+1)=1:=by decide
 have w2:IntKind.i64.wrap (1+1)=2:=by decide
 refine A00 ?_;try with_reducible exact tt
 refine AW.rounds 3 ?_
 refine A10 (fs e1 (fs e1' (fs e2 (fs g1 (fs g2 (fs w1 w2)))))) ?_;try with_reducible exact tt
 refine CallS.nX (hg) (hO':=o_5m []) (R0 ?_);try with_reducible exact tt
 refine AW.rounds 3 ?_
 refine A10 (fs ha (fs hb (fs l0 (fs l1 (fs w1 w2))))) ?_;try with_reducible exact tt
 first
 | (refine ⟨by rw [hn];exact Sub1.refl _,Subs.of ?_⟩;rw [←List.map_append,o_61])
 | (rw [hn];exact Sub1.refl _)
end
section
open Go.RowKit
def inG (mg:St→St→Sp) (x:St×Rat) (B:Sp) (out:Sp) (j:Nat):Sp:=(B.take j).foldl (fun out y=>innQ (x.2*y.2) out (atQ (mg x.1 y.1))) out
def outG (mg:St→St→Sp) (A B:Sp) (i:Nat):Sp:=(A.take i).foldl (fun out x=>B.foldl (fun out y=>innQ (x.2*y.2) out (atQ (mg x.1 y.1))) out) []
def mrgG (mg:St→St→Sp) (A B:Sp):Sp:=A.foldl (fun out x=>B.foldl (fun out y=>innQ (x.2*y.2) out (atQ (mg x.1 y.1))) out) []
theorem o_16g (mg:St→St→Sp) (x:St×Rat) (B out:Sp) (j:Nat) (h:j<B.length):inG mg x B out (j+1)=innQ (x.2*B[j].2) (inG mg x B out j) (atQ (mg x.1 B[j].1)):=by
 unfold inG;rw [List.take_add_one,List.getElem?_eq_getElem h,Option.toList,List.foldl_append];rfl
theorem o_16h (mg:St→St→Sp) (x:St×Rat) (B out:Sp):inG mg x B out B.length=B.foldl (fun out y=>innQ (x.2*y.2) out (atQ (mg x.1 y.1))) out:=by unfold inG;rw [List.take_length]
theorem o_16i (mg:St→St→Sp) (A B:Sp) (i:Nat) (h:i<A.length):outG mg A B (i+1)=inG mg A[i] B (outG mg A B i) B.length:=by
 rw [o_16h]
 unfold outG;rw [List.take_add_one,List.getElem?_eq_getElem h,Option.toList,List.foldl_append];rfl
theorem o_16j (mg:St→St→Sp) (A B:Sp):outG mg A B A.length=mrgG mg A B:=by unfold outG mrgG;rw [List.take_length]
theorem o_16k {mg:St→St→Sp} {D C M J:Nat} {x:St×Rat} {B out:Sp} (ho:∀p∈out,Gr D C p.2) (hB:∀y∈B,(∀p∈atQ (mg x.1 y.1),Gr D M (x.2*y.2*p.2))∧(atQ (mg x.1 y.1)).length≤J):∀j,j≤B.length→∀p∈inG mg x B out j,Gr D (C+j*J*M) p.2
 | 0,_=>fun p hp=>by
  simp [inG] at hp
  exact (ho p hp).le (by omega)
 | j+1,hj=>by
  have hj':j<B.length:=hj
  rw [o_16g mg x B out j hj']
  obtain ⟨h1,h2⟩:=hB B[j] (List.getElem_mem hj')
  intro p hp
  refine (o_14f (o_16k ho hB j (by omega)) _ h1 p hp).le ?_
  have:=Nat.mul_le_mul_right M h2
  have e:(j+1)*J*M=j*J*M+J*M:=by rw [Nat.add_mul j 1 J,Nat.one_mul,Nat.add_mul]
  omega
theorem o_16l {mg:St→St→Sp} {D M J L:Nat} {A B:Sp} (hBL:B.length≤L) (hAB:∀x∈A,∀y∈B,(∀p∈atQ (mg x.1 y.1),Gr D M (x.2*y.2*p.2))∧(atQ (mg x.1 y.1)).length≤J):∀i,i≤A.length→∀p∈outG mg A B i,Gr D (i*(L*J)*M) p.2
 | 0,_=>fun p hp=>by simp [outG] at hp
 | i+1,hi=>by
  have hi':i<A.length:=hi
  rw [o_16i mg A B i hi']
  intro p hp
  refine (o_16k (o_16l hBL hAB i (by omega)) (hAB A[i] (List.getElem_mem hi')) B.length (Nat.le_refl _) p hp).le ?_
  have h1:=Nat.mul_le_mul_right M (Nat.mul_le_mul_right J hBL)
  have e:(i+1)*(L*J)*M=i*(L*J)*M+L*J*M:=by rw [Nat.add_mul i 1 (L*J),Nat.one_mul,Nat.add_mul]
  omega
structure MrgOK (k a w:Nat) (mg:St→St→Sp) (A B:Sp) (D M J L:Nat):Prop where
 dp:0<D
 mp:1≤M
 jp:1≤J
 lp:1≤L
 j2:J≤1000
 a1:1≤A.length
 a2:A.length≤1000
 b1:1≤B.length
 b2:B.length≤L
 l2:L≤1000
 xs:∀x∈A,0≤x.2∧RS x.2 40000
 ys:∀y∈B,0≤y.2∧RS y.2 40000
 gr:∀x∈A,∀y∈B,(∀p∈atQ (mg x.1 y.1),Gr D M (x.2*y.2*p.2))∧(atQ (mg x.1 y.1)).length≤J
 rs:∀x∈A,∀y∈B,∀p∈atQ (mg x.1 y.1),RS p.2 100000
 sz:size ((A.length+2)*(L*J)*M*D)≤100000
 cost:Eqn Tryz.prog o_ag [.d (parD k a w),.d (.sl (A.length+B.length) (stsD ((A++B).map (·.1))))] [] (.d (.int .i64 0)) []
 call:∀x∈A,∀y∈B,Eqn Tryz.prog o_b4 [.d (parD k a w),.d (.agg (stD x.1)),.d (.agg (stD y.1))] [] (.mp 0) [spO (mg x.1 y.1)]∧Eqn Tryz.prog o_am [.mp 0] [spO (mg x.1 y.1)] (.d (.sl (atQ (mg x.1 y.1)).length (spD rcD (atQ (mg x.1 y.1))))) [spO (mg x.1 y.1)]
 out:Eqn Tryz.prog o_am [.mp 0] [spO (mrgG mg A B)] (.d (.sl (atQ (mrgG mg A B)).length (spD rcD (atQ (mrgG mg A B))))) [spO (mrgG mg A B)]
def slC (la lb:Nat) (A B C:List D) (n i:Nat):List V:=setS (List.replicate 100 .junk) [(1,.d (.sl la A)),(2,.d (.sl lb B)),(3,.p 0 0),(8,if i=0 then .d .nilsl else .own 1 3 i),(9,.d (.bool false)),(23,.d (.sl n C)),(24,.d (.int .i64 n)),(25,.d (.int .i64 (i:Nat)))]
def hpC (k a w:Nat) (S:List St) (i:Nat):List (Option Ob):=[some ⟨62,[.d (.int .i64 k),.d (.int .i64 a),.d (.int .i64 w)]⟩]++if i=0 then [] else [some ⟨64,(stsD (S.take i)).map .d⟩]
theorem o_16m (S:List St) (i:Nat) (h:i<S.length):stsD (S.take (i+1))=stsD (S.take i)++stD S[i]:=by
 unfold stsD;rw [List.take_add_one,List.getElem?_eq_getElem h,Option.toList,List.flatMap_append];simp
theorem o_16n {x:Rat} (h:0≤x):¬cmpQ x 0<0:=by
 unfold cmpQ
 rw [if_neg (Rat.not_lt.2 h)]
 split<;>decide
set_option maxHeartbeats 4000000 in
theorem o_16o {k a w:Nat} {mg:St→St→Sp} {A B:Sp} {G M J L:Nat} (h:MrgOK k a w mg A B G M J L):Eqn Tryz.prog o_9d [.d (parD k a w),.d (.sl A.length (spD rcD A)),.d (.sl B.length (spD rcD B))] [] (.tup [.d (.sl (atQ (mrgG mg A B)).length (spD rcD (atQ (mrgG mg A B)))),.d (.int .i64 0)]) []:=by
 refine Eqn.pure o_9f Plain.ok ?_
 have ha:=o_102 rcD (fun _=>rfl) A
 have hb:=o_102 rcD (fun _=>rfl) B
 have hcon:=o_16f A.length B.length (spD rcD A) (spD rcD B) ha hb h.a1 h.b1 h.a2 (Nat.le_trans h.b2 h.l2)
 have hAB:spD rcD A++spD rcD B=spD rcD (A++B):=by simp [spD]
 rw [hAB] at hcon
 have hc:=o_102 rcD (fun _=>rfl) (A++B)
 have hcl:(A++B).length=A.length+B.length:=List.length_append
 have hget:=o_14l (A++B)
 have hgA:=o_14l A
 have hgB:=o_14l B
 have hA2:=h.a2
 have hB2:=h.b2
 have hL2:=h.l2
 have hJ2:=h.j2
 have hout:=h.out
 have hgo:=o_16l h.b2 h.gr
 have hnn:∀p∈A++B,0≤p.2∧RS p.2 40000:=fun p hp=>by
  rcases List.mem_append.1 hp with hp | hp
  ·exact h.xs p hp
  ·exact h.ys p hp
 have hcost:=h.cost
 have hn1:A.length+B.length≤2000:=by have:=h.a2;have:=h.b2;have:=h.l2;omega
 have hsl:((A++B).map (·.1)).length=(A++B).length:=List.length_map _
 have hsg:∀i (hi:i<(A++B).length),((A++B).map (·.1))[i]'(by rw [hsl];exact hi)=(A++B)[i].1:=fun i hi=>List.getElem_map _
 have hsn:=o_16m ((A++B).map (·.1))
 have hsll:=fun i=>o_15r (((A++B).map (·.1)).take i)
 rw [←hcl] at hcon hcost hn1
 generalize hSS:(A++B).map (·.1)=S at *
 generalize hBB:A++B=AB at *
 generalize spD rcD A=CA at *
 generalize spD rcD B=CB at *
 obtain ⟨n,hn⟩:∃n,n=AB.length:=⟨_,rfl⟩
 rw [←hn] at hcon hcost hn1 hc hcl hsl
 have htk:(spD rcD AB).take (n*6)=spD rcD AB:=List.take_of_length_le (by omega)
 refine cc (c':=?z272) ?_ ?_
 case refine_1=>cbv<;>exact rfl
 try simp only [parD] at hcost ⊢
 refine A00 ?_;try with_reducible exact tt
 refine CallS.gf 1 1 ⟨_,[.d (.sl A.length CA),.d (.sl B.length CB)]⟩ [.sl A.length CA,.sl B.length CB] [] (hcon) (R0 ?_);try with_reducible exact tt
 refine AW.freeze 2 6 ⟨75,(spD rcD AB).map .d⟩ (spD rcD AB) (by simp) rfl ?_
 simp [frzH,htk]
 refine AW.loopG (α:=Nat) (fun i=>slC A.length B.length CA CB (spD rcD AB) n i) (fun i=>hpC k a w S i) (fun i=>i≤n) (fun i=>n-i) 0 ?_ (Nat.zero_le _) ?_ ?_ ?_
 ·intro i hi;unfold hpC;split<;>simp
 ·simp [slC,hpC]
 ·simp [hpC]
 rintro i hi
 by_cases hi2:i<n
 ·have hi3:(i:Int)<n:=by omega
  obtain ⟨s1,s2,s3,q,N1,N2,N3,hp,hN,hg⟩:=hget i (by omega)
  obtain ⟨hq0,hqr⟩:=hnn _ (List.getElem_mem (by omega:i<AB.length))
  rw [hp] at hq0 hqr
  have hsi:=hsn i (by omega)
  rw [hsg i (by omega),hp] at hsi
  have hlen:=hsll i
  rw [List.length_take,Nat.min_eq_left (by omega)] at hlen
  have ho:=rof0
  have hcm:=o_va q 0 (hqr.le (by omega)) ⟨by decide,by decide⟩
  have hcn:=o_16n hq0
  generalize cmpQ q 0=z at *
  have hz0:rcD 0=[natW 0,.bool false,natW 0]:=rfl
  rw [rD_rc,rD_rc,hN] at hcm
  rw [rD_rc] at ho
  rw [hz0] at hcm ho
  have ew:IntKind.i64.wrap ((i:Int)+1)=((i+1:Nat):Int):=by rw [w64 (by omega) (by omega)];omega
  have hb6:i*6+6≤n*6:=by omega
  have hb7:i*6<n*6:=by omega
  have ht3:(stsD (S.take i)).length=i*3:=hlen
  by_cases h0:i=0
  ·subst h0
   simp only [slC,hpC,if_true]
   simp only [Nat.zero_mul,List.drop_zero] at hg
   simp
   refine A12 (fs hi2 (fs hi3 (fs hg (fs hc (fs hb6 (fs hb7 (fs ew hcn))))))) ho hcm ?_;try with_reducible exact tt
   refine ⟨1,1,3,⟨by omega,by omega⟩,by omega,by omega,?_,?_⟩
   ·simp [slC,hpC,swT,swH,sw,Ob.sw,V.ren,V.rens]
   ·rw [hsi]
    simp [slC,hpC,swT,swH,sw,Ob.sw,V.ren,V.rens,stsD,stD]
  ·have hcs:([.int .i64 s1,.int .i64 s2,.bool s3]:List D).map V.d=[.d (.int .i64 s1),.d (.int .i64 s2),.d (.bool s3)]:=rfl
   simp only [slC,hpC,if_neg h0]
   simp
   refine A12 (fs hi2 (fs hi3 (fs hg (fs hc (fs hb6 (fs hb7 (fs ew (fs hcn (fs ht3 h0))))))))) ho hcm ?_;try with_reducible exact tt
   refine ⟨i+1,1,4,⟨by omega,by omega⟩,by omega,by omega,?_,?_⟩
   ·simp [slC,hpC,swT,swH,sw,Ob.sw,V.ren,V.rens]
   ·rw [hsi]
    simp [slC,hpC,swT,swH,sw,Ob.sw,V.ren,V.rens,stD]
    all_goals (rw [←hcs,←List.map_append,o_61];exact ⟨Subs.refl _,o_62 _ _⟩)
 ·have h2:i=n:=by omega
  subst h2
  have h0:¬i=0:=by have:=h.a1;omega
  have hSt:S.take i=S:=List.take_of_length_le (by omega)
  have hsl3:=o_15r S
  have htk3:(stsD S).take (i*3)=stsD S:=List.take_of_length_le (by omega)
  simp only [slC,hpC,if_neg h0,hSt]
  simp
  refine AW.freeze 1 3 ⟨64,(stsD S).map .d⟩ (stsD S) (by simp) rfl ?_
  simp [frzH,htk3]
  refine A01 hcost ?_;try with_reducible exact tt
  rw [←o_16j] at hout ⊢
  refine AW.loopG (α:=Nat) (fun j=>setS (List.replicate 100 .junk) [(1,.d (.sl A.length CA)),(2,.d (.sl B.length CB)),(3,.p 0 0),(13,.mp 2),(59,.d (.sl A.length CA)),(60,.d (.int .i64 A.length)),(61,.d (.int .i64 (j:Nat)))]) (fun j=>[some ⟨62,[.d (.int .i64 k),.d (.int .i64 a),.d (.int .i64 w)]⟩,none,some ⟨1000391,(spD rcD (outG mg A B j)).map .d⟩]) (fun j=>j≤A.length) (fun j=>A.length-j) 0 ?_ (Nat.zero_le _) ?_ ?_ ?_
  ·intro i hi;simp
  ·simp
  ·simp [outG,spD]
  clear hget hcon hcost hnn hsl hsg hsn hsll hSt hsl3 htk3 htk hc hBB hSS
  rintro u hu
  simp
  by_cases hu2:u<A.length
  ·have hu3:(u:Int)<A.length:=by omega
   obtain ⟨x1,x2,x3,xq,X1,X2,X3,hpx,hX,hgx⟩:=hgA u hu2
   have hxm:((x1,x2,x3),xq)∈A:=by rw [←hpx];exact List.getElem_mem hu2
   have hxr:=(h.xs _ hxm).2
   have hgou:=hgo u hu
   have hon:=o_16i mg A B u hu2
   rw [hpx] at hon
   have hx6:u*6+6≤A.length*6:=by omega
   have hx7:u*6<A.length*6:=by omega
   have ewu:IntKind.i64.wrap ((u:Int)+1)=((u+1:Nat):Int):=by rw [w64 (by omega) (by omega)];omega
   refine A10 (fs hu2 (fs hu3 (fs hgx (fs ha (fs hx6 hx7))))) ?_;try with_reducible exact tt
   refine AW.loopG (α:=Nat) (fun j=>setS (List.replicate 100 .junk) [(1,.d (.sl A.length CA)),(2,.d (.sl B.length CB)),(3,.p 0 0),(13,.mp 2),(15,.p 3 0),(59,.d (.sl A.length CA)),(60,.d (.int .i64 A.length)),(61,.d (.int .i64 (u:Nat))),(65,.d (.sl B.length CB)),(66,.d (.int .i64 B.length)),(67,.d (.int .i64 (j:Nat)))]) (fun j=>[some ⟨62,[.d (.int .i64 k),.d (.int .i64 a),.d (.int .i64 w)]⟩,none,some ⟨1000391,(spD rcD (inG mg ((x1,x2,x3),xq) B (outG mg A B u) j)).map .d⟩,some ⟨75,[.d (.int .i64 x1),.d (.int .i64 x2),.d (.bool x3),.d X1,.d X2,.d X3]⟩]) (fun j=>j≤B.length) (fun j=>B.length-j) 0 ?_ (Nat.zero_le _) ?_ ?_ ?_
   ·intro i hi;simp
   ·simp
   ·simp [inG]
   rintro v hv
   simp
   by_cases hv2:v<B.length
   ·have hv3:(v:Int)<B.length:=by omega
    obtain ⟨y1,y2,y3,yq,Y1,Y2,Y3,hpy,hY,hgy⟩:=hgB v hv2
    have hym:((y1,y2,y3),yq)∈B:=by rw [←hpy];exact List.getElem_mem hv2
    have hyr:=(h.ys _ hym).2
    obtain ⟨hme,hat⟩:=h.call _ hxm _ hym
    obtain ⟨hgC,hJ⟩:=h.gr _ hxm _ hym
    have hrC:=h.rs _ hxm _ hym
    have hin:=o_16k hgou (fun y hy=>h.gr _ hxm y hy) v hv
    have hon2:=o_16g mg ((x1,x2,x3),xq) B (outG mg A B u) v hv2
    rw [hpy] at hon2
    simp only at hme hat hgC hJ hrC hon2
    have hy6:v*6+6≤B.length*6:=by omega
    have hy7:v*6<B.length*6:=by omega
    have ewv:IntKind.i64.wrap ((v:Int)+1)=((v+1:Nat):Int):=by rw [w64 (by omega) (by omega)];omega
    have hq:=o_v7 xq yq (hxr.le (by omega)) (hyr.le (by omega))
    have hqr:=(RS.mul hxr hyr).le (M:=100000) (by omega)
    obtain ⟨C,hC⟩:∃C,C=atQ (mg (x1,x2,x3) (y1,y2,y3)):=⟨_,rfl⟩
    rw [←hC] at hat hgC hJ hrC hon2
    have hCl:=o_102 rcD (fun _=>rfl) C
    have hgetC:=o_14l C
    have hJ1:u*(L*J)*M+v*J*M+J*M≤(A.length+2)*(L*J)*M:=by
     have k1:v*J≤L*J:=Nat.mul_le_mul_right J (by omega)
     have k2:J≤L*J:=Nat.le_mul_of_pos_left J h.lp
     have k3:=Nat.mul_le_mul_right M k1
     have k4:=Nat.mul_le_mul_right M k2
     have k5:u*(L*J)*M≤A.length*(L*J)*M:=Nat.mul_le_mul_right M (Nat.mul_le_mul_right _ hu)
     have k6:(A.length+2)*(L*J)*M=A.length*(L*J)*M+2*(L*J*M):=by rw [Nat.add_mul A.length 2,Nat.add_mul,Nat.mul_assoc 2]
     rw [k6]
     omega
    have hCAP:1≤(A.length+2)*(L*J)*M:=Nat.mul_pos (Nat.mul_pos (by omega) (Nat.mul_pos h.lp h.jp)) h.mp
    have hM1:M≤(A.length+2)*(L*J)*M:=Nat.le_mul_of_pos_left M (Nat.mul_pos (by omega) (Nat.mul_pos h.lp h.jp))
    have hsz:=h.sz
    generalize (A.length+2)*(L*J)*M=CAP at *
    simp only [spO,stD,parD] at hme hat
    rw [rD_rc xq,rD_rc yq,hX,hY,rD_rc] at hq
    obtain ⟨Q1,Q2,Q3,hQ⟩:∃Q1 Q2 Q3,rcD (xq*yq)=[Q1,Q2,Q3]:=⟨_,_,_,rfl⟩
    rw [hQ] at hq
    refine A10 (fs hv2 (fs hv3 (fs hgy (fs hb (fs hy6 hy7))))) ?_;try with_reducible exact tt
    refine CallS.nX (hme) (R0 ?_);try with_reducible exact tt
    refine CallS.g [5] (hat) (R0 ?_);try with_reducible exact tt
    refine AW.loopG (α:=Nat) (fun j=>setS (List.replicate 100 .junk) [(1,.d (.sl A.length CA)),(2,.d (.sl B.length CB)),(3,.p 0 0),(13,.mp 2),(15,.p 3 0),(17,.p 4 0),(59,.d (.sl A.length CA)),(60,.d (.int .i64 A.length)),(61,.d (.int .i64 (u:Nat))),(65,.d (.sl B.length CB)),(66,.d (.int .i64 B.length)),(67,.d (.int .i64 (v:Nat))),(77,.d (.sl C.length (spD rcD C))),(78,.d (.int .i64 C.length)),(79,.d (.int .i64 (j:Nat)))]) (fun j=>[some ⟨62,[.d (.int .i64 k),.d (.int .i64 a),.d (.int .i64 w)]⟩,none,some ⟨1000391,(spD rcD (innQ (xq*yq) (inG mg ((x1,x2,x3),xq) B (outG mg A B u) v) (C.take j))).map .d⟩,some ⟨75,[.d (.int .i64 x1),.d (.int .i64 x2),.d (.bool x3),.d X1,.d X2,.d X3]⟩,some ⟨75,[.d (.int .i64 y1),.d (.int .i64 y2),.d (.bool y3),.d Y1,.d Y2,.d Y3]⟩]) (fun j=>j≤C.length) (fun j=>C.length-j) 0 ?_ (Nat.zero_le _) ?_ ?_ ?_
    ·intro i hi;simp
    ·simp
    ·simp [innQ]
    rintro j hj
    simp
    by_cases hj2:j<C.length
    ·have hj3:(j:Int)<C.length:=by omega
     obtain ⟨t1,t2,t3,r,M1,M2,M3,hpc,hMM,hgc⟩:=hgetC j hj2
     have hinn:=o_14b (xq*yq) (inG mg ((x1,x2,x3),xq) B (outG mg A B u) v) C j hj2
     have hgr:=hgC _ (List.getElem_mem hj2)
     have hrr:=hrC _ (List.getElem_mem hj2)
     rw [hpc] at hinn hgr hrr
     simp only at hinn hgr hrr
     have hgi:=o_14f (q:=xq*yq) hin (C.take j) (fun p hp=>hgC p (List.mem_of_mem_take hp))
     have hget2:=(o_14e hgi (t1,t2,t3)).le (C:=CAP) (by
      have e1:(C.take j).length*M≤J*M:=Nat.mul_le_mul_right M (by rw [List.length_take];omega)
      omega)
     have hmul:=o_v7 r (xq*yq) hrr hqr
     rw [Rat.mul_comm r] at hmul
     have hadd:=o_11v (innQ (xq*yq) (inG mg ((x1,x2,x3),xq) B (outG mg A B u) v) (C.take j)) (t1,t2,t3) (xq*yq*r) (hget2.rs h.dp hCAP hsz) ((hgr.le hM1).rs h.dp hCAP hsz)
     have ewj:IntKind.i64.wrap ((j:Int)+1)=((j+1:Nat):Int):=by rw [w64 (by omega) (by omega)];omega
     have hc6:j*6+6≤C.length*6:=by omega
     have hc7:j*6<C.length*6:=by omega
     rw [←hinn] at hadd
     rw [rD_rc r,rD_rc (xq*yq),rD_rc (xq*yq*r),hQ,hMM] at hmul
     rw [rD_rc (xq*yq*r)] at hadd
     obtain ⟨P1,P2,P3,hP⟩:∃P1 P2 P3,rcD (xq*yq*r)=[P1,P2,P3]:=⟨_,_,_,rfl⟩
     rw [hP] at hmul hadd
     simp only [spO,stD] at hadd
     refine A12 (fs hj2 (fs hj3 (fs hgc (fs hCl (fs hc6 hc7))))) hq hmul ?_;try with_reducible exact tt
     refine CallS.g [2] (hadd) (R0 ?_);try with_reducible exact tt
     refine A10 ewj ?_;try with_reducible exact tt
     refine ⟨j+1,2,2,⟨by omega,by omega⟩,by omega,by omega,?_,?_⟩
     ·simp [swT,swH,sw,Ob.sw,V.ren,V.rens]
     ·simp [swT,swH,sw,Ob.sw,V.ren,V.rens]
    ·have h2:j=C.length:=by omega
     subst h2
     rw [List.take_length,←hon2]
     refine A10 ewv ?_;try with_reducible exact tt
     refine ⟨v+1,2,2,⟨by omega,by omega⟩,by omega,by omega,?_,?_⟩
     ·simp [swT,swH,sw,Ob.sw,V.ren,V.rens]
     ·simp [swT,swH,sw,Ob.sw,V.ren,V.rens]
   ·have h2:v=B.length:=by omega
    subst h2
    rw [←hon]
    refine A10 ewu ?_;try with_reducible exact tt
    refine ⟨u+1,2,2,⟨by omega,by omega⟩,by omega,by omega,?_,?_⟩
    ·simp [swT,swH,sw,Ob.sw,V.ren,V.rens]
    ·simp [swT,swH,sw,Ob.sw,V.ren,V.rens]
  ·have h2:u=A.length:=by omega
   subst h2
   simp only [spO] at hout
   refine A00 ?_;try with_reducible exact tt
   refine CallS.g [2] (hout) (R0 ?_);try with_reducible exact tt
   done
end
section
open Go.RowKit
theorem wellQ {k a w:Nat} (h:GoodS k a w) {t:St} (ht:okQ (topC w) t):WellR k a w t.1 t.2.1 t.2.2:=.inr ⟨by have:=h.1;omega,ht.2.1,ht.1,ht.2.2⟩
end
section
open Go.RowKit
theorem o_16p {s:St}:∀(A:Sp) (j:Nat) (h:j<A.length),(∀i (hi:i<A.length),i<j→A[i].1≠s)→A[j].1=s→getQ A s=A[j].2
 | [],j,h,_,_=>by simp at h
 | p::A,0,h,_,e=>by
  have e':p.1=s:=e
  unfold getQ;rw [if_pos e'.symm];rfl
 | p::A,j+1,h,hn,e=>by
  have h0:=hn 0 (by simp) (by omega)
  simp only [List.getElem_cons_zero] at h0
  unfold getQ
  rw [if_neg fun e=>h0 e.symm]
  have:=o_16p (s:=s) A j (by simpa using h) (fun i hi hij=>by have:=hn (i+1) (by simpa using hi) (by omega);simpa using this) (by simpa using e)
  simpa using this
theorem o_16q {s:St}:∀(A:Sp),(∀i (hi:i<A.length),A[i].1≠s)→getQ A s=0
 | [],_=>rfl
 | p::A,hn=>by
  have h0:=hn 0 (by simp)
  simp only [List.getElem_cons_zero] at h0
  unfold getQ
  rw [if_neg fun e=>h0 e.symm]
  exact o_16q A fun i hi=>by have:=hn (i+1) (by simpa using hi);simpa using this
set_option maxHeartbeats 2000000 in
theorem o_16r (A:Sp) (hA:A.length≤1000000) (y1 y2:Nat) (y3:Bool):Eqn Tryz.prog o_cg [.d (.sl A.length (spD rcD A)),.d (.agg [.int .i64 y1,.int .i64 y2,.bool y3])] [] (.d (rD (getQ A (y1,y2,y3)))) []:=by
 refine Eqn.pure o_ci Plain.ok ?_
 have hl:=o_102 rcD (fun _=>rfl) A
 have hget:=o_14l A
 have ho:=rof0
 refine cc (c':=?z273) ?_ ?_
 case refine_1=>cbv<;>exact rfl
 obtain ⟨Z1,Z2,Z3,hZ⟩:∃Z1 Z2 Z3,rcD (getQ A (y1,y2,y3))=[Z1,Z2,Z3]:=⟨_,_,_,rfl⟩
 rw [rD_rc,hZ]
 refine A00 ?_;try with_reducible exact tt
 refine AW.loopG (α:=Nat) (fun j=>setS (List.replicate 21 .junk) [(3,.p 0 0),(4,.p 1 0),(7,.d (.sl A.length (spD rcD A))),(8,.d (.int .i64 A.length)),(9,.d (.int .i64 (j:Nat)))]) (fun j=>[some ⟨64,[.d (.int .i64 y1),.d (.int .i64 y2),.d (.bool y3)]⟩,some ⟨47,[.d .nilsl,.d (.bool false),.d .nilsl]⟩]) (fun j=>j≤A.length∧∀i (hi:i<A.length),i<j→A[i].1≠(y1,y2,y3)) (fun j=>A.length-j) 0 ?_ ⟨Nat.zero_le _,fun _ _ h=>by omega⟩ ?_ ?_ ?_
 ·intro j hj;simp
 ·simp
 ·simp
 rintro j ⟨hj,hno⟩
 simp
 by_cases hj2:j<A.length
 ·have hj3:(j:Int)<A.length:=by omega
  obtain ⟨s1,s2,s3,q,N1,N2,N3,hp,hN,hg⟩:=hget j hj2
  have hb6:j*6+6≤A.length*6:=by omega
  have hb7:j*6<A.length*6:=by omega
  have ewj:IntKind.i64.wrap ((j:Int)+1)=((j+1:Nat):Int):=by rw [w64 (by omega) (by omega)];omega
  by_cases h1:s1=y1
  ·by_cases h2:s2=y2
   ·by_cases h3:s3=y3
    ·have hf:=o_16p A j hj2 hno (by rw [hp,h1,h2,h3])
     rw [hp] at hf
     simp only at hf
     rw [hf,hN] at hZ
     simp only [List.cons.injEq,and_true] at hZ
     obtain ⟨z1,z2,z3⟩:=hZ
     subst h1 h2 h3 z1 z2 z3
     refine A10 (fs hj2 (fs hj3 (fs hg (fs hl (fs hb6 hb7))))) ?_;try with_reducible exact tt
     done
    ·have hne:(s1,s2,s3)≠(y1,y2,y3):=fun e=>h3 (by simpa using congrArg (fun x:St=>x.2.2) e)
     subst h1 h2
     have h4:(s3==y3)=false:=by simpa using h3
     refine A10 (fs hj2 (fs hj3 (fs hg (fs hl (fs hb6 (fs hb7 (fs h3 h4))))))) ?_;try with_reducible exact tt
     refine A10 ewj ?_;try with_reducible exact tt
     have hno2:∀i (hi:i<A.length),i<j+1→A[i].1≠(s1,s2,y3):=fun i hi h=>by
      by_cases e:i=j
      ·subst e;rw [hp];exact hne
      ·exact hno i hi (by omega)
     refine ⟨j+1,0,0,by simp,⟨by omega,hno2⟩,by omega,?_,?_⟩
     ·simp [swT,swH,sw,Ob.sw,V.ren,V.rens]
     ·simp [swT,swH,sw,Ob.sw,V.ren,V.rens]
   ·have hne:(s1,s2,s3)≠(y1,y2,y3):=fun e=>h2 (by simpa using congrArg (fun x:St=>x.2.1) e)
    subst h1
    have h4:((s2:Int)==(y2:Int))=false:=by simp;omega
    have h5:¬(s2:Int)=(y2:Int):=by omega
    refine A10 (fs hj2 (fs hj3 (fs hg (fs hl (fs hb6 (fs hb7 (fs h2 (fs h4 h5)))))))) ?_;try with_reducible exact tt
    refine A10 ewj ?_;try with_reducible exact tt
    have hno2:∀i (hi:i<A.length),i<j+1→A[i].1≠(s1,y2,y3):=fun i hi h=>by
     by_cases e:i=j
     ·subst e;rw [hp];exact hne
     ·exact hno i hi (by omega)
    refine ⟨j+1,0,0,by simp,⟨by omega,hno2⟩,by omega,?_,?_⟩
    ·simp [swT,swH,sw,Ob.sw,V.ren,V.rens]
    ·simp [swT,swH,sw,Ob.sw,V.ren,V.rens]
  ·have hne:(s1,s2,s3)≠(y1,y2,y3):=fun e=>h1 (by simpa using congrArg (fun x:St=>x.1) e)
   have h4:((s1:Int)==(y1:Int))=false:=by simp;omega
   have h5:¬(s1:Int)=(y1:Int):=by omega
   refine A10 (fs hj2 (fs hj3 (fs hg (fs hl (fs hb6 (fs hb7 (fs h1 (fs h4 h5)))))))) ?_;try with_reducible exact tt
   refine A10 ewj ?_;try with_reducible exact tt
   have hno2:∀i (hi:i<A.length),i<j+1→A[i].1≠(y1,y2,y3):=fun i hi h=>by
    by_cases e:i=j
    ·subst e;rw [hp];exact hne
    ·exact hno i hi (by omega)
   refine ⟨j+1,0,0,by simp,⟨by omega,hno2⟩,by omega,?_,?_⟩
   ·simp [swT,swH,sw,Ob.sw,V.ren,V.rens]
   ·simp [swT,swH,sw,Ob.sw,V.ren,V.rens]
 ·have h2:j=A.length:=by omega
  have hz:getQ A (y1,y2,y3)=0:=o_16q A fun i hi=>hno i hi (by omega)
  rw [rD_rc] at ho
  rw [←hz,hZ] at ho
  subst h2
  refine A00 ?_;try with_reducible exact tt
  refine CallS.pu (ho) (R0 ?_);try with_reducible exact tt
end
section
open Go.RowKit
theorem at_eq {l K N:Sp} (hu:Uq l) (hN:nzQ l=N) (hp:K.Perm N) (hs:K.Pairwise fun a b=>ltS a.1 b.1=true):atQ l=K:=(o_10l hu (hN▸hp) hs).symm
def hf2:Rat:=mkRat 1 2
theorem dst2:atQ (dstQ 1 1 2 (0,0,false) 2)=[((1,0,false),hf2),((2,0,false),hf2)]:=by
 have c0:stepQ (topC 2) (chP 1 1) (0,0,false)=[((1,0,false),1),((0,0,false),0)]:=by kernel_rfl
 have c1:stepQ (topC 2) (chP 1 1) (1,0,false)=[((2,0,false),hf2),((1,0,false),hf2)]:=by kernel_rfl
 have a0:atQ [(((0,0,false):St),(1:Rat))]=[((0,0,false),1)]:=at_eq (N:=[((0,0,false),1)]) (by unfold Uq;decide) (by kernel_rfl) (List.Perm.refl _) (by decide)
 have a1:atQ [(((1,0,false):St),(1:Rat)),((0,0,false),0)]=[((1,0,false),1)]:=at_eq (N:=[((1,0,false),1)]) (by unfold Uq;decide) (by kernel_rfl) (List.Perm.refl _) (by decide)
 have a2:atQ [(((1,0,false):St),(1:Rat))]=[((1,0,false),1)]:=at_eq (N:=[((1,0,false),1)]) (by unfold Uq;decide) (by kernel_rfl) (List.Perm.refl _) (by decide)
 have a3:atQ [(((2,0,false):St),hf2),((1,0,false),hf2)]=[((1,0,false),hf2),((2,0,false),hf2)]:=at_eq (N:=[((2,0,false),hf2),((1,0,false),hf2)]) (by unfold Uq;decide) (by kernel_rfl) (List.Perm.swap _ _ _) (by decide)
 have a4:atQ [(((1,0,false):St),hf2),((2,0,false),hf2)]=[((1,0,false),hf2),((2,0,false),hf2)]:=at_eq (N:=[((1,0,false),hf2),((2,0,false),hf2)]) (by unfold Uq;decide) (by kernel_rfl) (List.Perm.refl _) (by decide)
 have d1:dstQ 1 1 2 (0,0,false) 1=[((1,0,false),1)]:=by
  show timesQ _ [((0,0,false),1)]=_
  unfold timesQ
  rw [a0]
  simp only [List.foldl_cons,List.foldl_nil]
  rw [c0,a1]
  kernel_rfl
 have d2:dstQ 1 1 2 (0,0,false) 2=[((1,0,false),hf2),((2,0,false),hf2)]:=by
  show timesQ _ (dstQ 1 1 2 (0,0,false) 1)=_
  rw [d1]
  unfold timesQ
  rw [a2]
  simp only [List.foldl_cons,List.foldl_nil]
  rw [c1,a3]
  kernel_rfl
 rw [d2,a4]
end
section
open Go.RowKit
def dlQ (s t:St):Rat:=if t=s then 1 else 0
def gA (top:Nat):Nat→St→Rat
 | 0,_=>0
 | i+1,t=>(gA top i t+dlQ (top-i,0,true) t)+dlQ (top-i,0,false) t
end
section
open Go.RowKit
theorem o_16s {g h:St→Rat}:∀{l:Sp},(∀p∈l,g p.1=h p.1)→exQ g l=exQ h l
 | [],_=>rfl
 | p::l,hl=>by simp only [exQ];rw [hl p (by simp),o_16s (l:=l) fun q hq=>hl q (by simp [hq])]
theorem o_16t {N:Nat} (hN:1≤N):∀{l:Sp},(∀p∈l,RS p.2 N)→∀s,RS (getQ l s) N
 | [],_,s=>RS.le (q:=0) (N:=1) ⟨by decide,by decide⟩ hN
 | p::l,h,s=>by
  unfold getQ
  split
  ·exact h p (by simp)
  ·exact o_16t hN (fun q hq=>h q (by simp [hq])) s
end
section
open Go.RowKit
theorem o_16u {a b:Rat} (h:a≤b):cmpQ a b≤0:=by
 unfold cmpQ
 split
 ·decide
 ·rename_i h1
  rw [if_neg (Rat.not_lt.2 h)];decide
theorem o_16v (X:Wm) (i:Nat) (hi:i<X.length):∃(s1 s2:Nat) (s3:Bool) (v:Nat),X[i]=((s1,s2,s3),v)∧((spN X).drop (i*4)).take 3=[.int .i64 s1,.int .i64 s2,.bool s3]:=by
 obtain ⟨⟨⟨s1,s2,s3⟩,v⟩,hp⟩:∃p,X[i]=p:=⟨_,rfl⟩
 refine ⟨s1,s2,s3,v,hp,?_⟩
 rw [o_12d,List.drop_eq_getElem_cons hi,o_129,hp]
 rfl
def ftT (A:Sp) (op:Nat):List V:=setS (List.replicate 70 .junk) [(0,.d (.sl A.length (spD rcD A))),(1,.mp 0),(2,.d (.int .i64 op)),(9,.d (.int .i64 2048)),(20,.p 1 0)]
def ftH (X:Wm) (σ:List Nat):List (Option Ob):=[some (wtO X),some ⟨1000000,.mp 0::.d (.int .i64 (X.length:Nat))::seenV σ⟩]
set_option maxHeartbeats 4000000 in
theorem o_16w (A:Sp) (hA:A.length≤1000000) (X:Wm) (op:Nat) (hop:op≤2^40) (hX:X.length≤1000000) (hg:∀s,getN s X≤2^40) (hrs:∀p∈A,RS p.2 90000)
  (hin:∀p∈X,getQ A p.1≠0) (hlo:∀p∈A,mkRat (getN p.1 X) 2048≤p.2∧p.2≤mkRat ((getN p.1 X+op:Nat):Int) 2048) :
  Eqn Tryz.prog o_94 [.d (.sl A.length (spD rcD A)),.mp 0,.d (.int .i64 op),.d (.int .i64 11)] [wtO X] (.d (.bool true)) [wtO X]:=by
 refine Eqn.gen [0] o_96 (by simp) (by simp) (by rfl) (by decide) (by simp) (by simp [wtO]) ?_
 have hn:=o_12a X
 have hLl:=o_102 rcD (fun _=>rfl) A
 have ho:=rof0
 have hgetA:=o_14l A
 refine cc (c':=?z275) ?_ ?_
 case refine_1=>cbv<;>exact rfl
 try simp only [wtO]
 refine A10 hn ?_;try with_reducible exact tt
 refine AW.loopG (α:=List Nat) (fun σ=>ftT A op) (fun σ=>ftH X σ) (fun σ=>σ.Nodup∧∀i∈σ,i<X.length) (fun σ=>X.length-σ.length) [] ?_ ⟨by simp,by simp⟩ ?_ ?_ ?_
 ·intro σ _;simp [ftH,wtO]
 ·simp [ftT,ftH]
 ·simp [ftH,wtO,hn,o_13f]
 rintro σ ⟨hnd,hlt⟩
 simp [ftT,ftH,wtO]
 refine A10 hn ?_;try with_reducible exact tt
 refine ⟨fun i hi hin2=>?_,fun hall=>?_⟩
 ·obtain ⟨s1,s2,s3,v,hp,hK⟩:=o_16v X i hi
  have hq0:=hin _ (List.getElem_mem hi)
  rw [hp] at hq0
  have hfi:=o_16r A hA s1 s2 s3
  have hrq:=o_16t (N:=90000) (by omega) hrs (s1,s2,s3)
  have hc:=o_va _ 0 (hrq.le (by omega)) (show RS (0:Rat) 100000 from ⟨by decide,by decide⟩)
  have hc0:¬cmpQ (getQ A (s1,s2,s3)) 0=0:=(o_140 _).2 hq0
  have hR:(σ++[i]).Nodup∧∀j∈σ++[i],j<X.length:=by
   refine ⟨by rw [List.nodup_append];exact ⟨hnd,by simp,fun a ha b hb e=>by simp at hb;subst hb;exact hin2 (e▸ha)⟩,fun j hj=>?_⟩
   rcases List.mem_append.1 hj with hj | hj
   ·exact hlt j hj
   ·simp at hj;subst hj;exact hi
  have hl1:(σ++[i]).length≤X.length:=by
   have h2:(σ++[i]).length≤(List.range X.length).length:=hR.1.length_le_of_subset fun j hj=>List.mem_range.2 (hR.2 j hj)
   simpa using h2
  rw [List.length_append,List.length_singleton] at hl1
  rw [rD_rc] at ho hc hfi
  rw [rD_rc] at hc
  generalize cmpQ (getQ A (s1,s2,s3)) 0=c at *
  obtain ⟨N1,N2,N3,hN⟩:∃N1 N2 N3,rcD (getQ A (s1,s2,s3))=[N1,N2,N3]:=⟨_,_,_,rfl⟩
  have hz0:rcD 0=[natW 0,.bool false,natW 0]:=rfl
  rw [hz0] at hc ho
  rw [hN] at hc hfi
  refine A10 (fs hi (fs hn hK)) ?_;try with_reducible exact tt
  refine CallS.pu (hfi) (R1 (fs hi (fs hn hK)) ?_);try with_reducible exact tt
  refine CallS.pu (ho) (R0 ?_);try with_reducible exact tt
  refine CallS.pu (hc) (R0 ?_);try with_reducible exact tt
  refine A10 hc0 ?_;try with_reducible exact tt
  refine ⟨σ++[i],1,1,⟨by omega,by omega,by omega,by omega⟩,hR,by simp;omega,?_,?_⟩
  ·simp [ftT,swT,swH,sw,Ob.sw,V.ren,V.rens]
  ·simp [ftH,wtO,swT,swH,sw,Ob.sw,V.ren,V.rens]
 ·refine A00 ?_;try with_reducible exact tt
  refine AW.loopW (α:=Nat) (fun i=>setS (List.replicate 70 .junk) [(1,.mp 0),(2,.d (.int .i64 op)),(9,.d (.int .i64 2048)),(31,.d (.sl A.length (spD rcD A))),(32,.d (.int .i64 A.length)),(33,.d (.int .i64 (i:Nat)))]) (fun i=>[some ⟨1000386,(spN X).map .d⟩]) (fun i=>i≤A.length) (fun i=>A.length-i) 1 (fun _=>rfl) (by simp) 0 (Nat.zero_le _) ?_ ?_ ?_
  ·simp
  ·simp [wtO]
  rintro i hi
  simp
  by_cases hi2:i<A.length
  ·have hi3:(i:Int)<A.length:=by omega
   have ew:IntKind.i64.wrap ((i:Int)+1)=((i+1:Nat):Int):=by rw [w64 (by omega) (by omega)];omega
   obtain ⟨s1,s2,s3,q,N1,N2,N3,hp,hN,hgA⟩:=hgetA i hi2
   have hri:=hrs _ (List.getElem_mem hi2)
   have hl2:=hlo _ (List.getElem_mem hi2)
   rw [hp] at hri hl2
   simp only at hri hl2
   obtain ⟨g,hgg⟩:∃g,g=getN (s1,s2,s3) X:=⟨_,rfl⟩
   have hgb:=hg (s1,s2,s3)
   have hml:=o_12k (s1,s2,s3) X
   rw [←hgg] at hgb hml hl2
   simp only [stD] at hml
   have ea:IntKind.i64.wrap ((g:Int)+(op:Int))=((g+op:Nat):Int):=by rw [w64 (by omega) (by omega)];omega
   have hm1:=o_vk g 2048 (by omega) (by omega) (by omega)
   have hm2:=o_vk (g+op) 2048 (by omega) (by omega) (by omega)
   have r1:RS (mkRat g 2048) 100000:=RS.mk' (by omega) (by rw [Int.natAbs_natCast];exact Nat.le_trans (o_o0 (n:=2^62) (by omega)) (by decide)) (by decide)
   have r2:RS (mkRat ((g+op:Nat):Int) 2048) 100000:=RS.mk' (by omega) (by rw [Int.natAbs_natCast];exact Nat.le_trans (o_o0 (n:=2^62) (by omega)) (by decide)) (by decide)
   have c1:=o_va _ q r1 (hri.le (by omega))
   have c2:=o_va q _ (hri.le (by omega)) r2
   have n1:=o_16u hl2.1
   have n2:=o_16u hl2.2
   have m1:=Int.not_lt.2 n1
   have m2:=Int.not_lt.2 n2
   have hb6:i*6+6≤A.length*6:=by omega
   have hb7:i*6<A.length*6:=by omega
   generalize cmpQ (mkRat g 2048) q=x1 at *
   generalize cmpQ q (mkRat ((g+op:Nat):Int) 2048)=x2 at *
   rw [rD_rc] at hm1 hm2 c1 c2
   rw [rD_rc] at c1 c2
   obtain ⟨B1,B2,B3,hB⟩:∃B1 B2 B3,rcD (mkRat g 2048)=[B1,B2,B3]:=⟨_,_,_,rfl⟩
   obtain ⟨C1,C2,C3,hC⟩:∃C1 C2 C3,rcD (mkRat ((g+op:Nat):Int) 2048)=[C1,C2,C3]:=⟨_,_,_,rfl⟩
   rw [hB] at hm1 c1
   rw [hC] at hm2 c2
   rw [hN] at c1 c2
   refine A10 (fs hi2 (fs hi3 (fs hLl (fs hgA (fs hb6 (fs hb7 (fs hml ea))))))) ?_;try with_reducible exact tt
   refine CallS.pu (hm1) (R1 (fs hml ea) ?_);try with_reducible exact tt
   refine CallS.pu (hm2) (R0 ?_);try with_reducible exact tt
   refine A00 ?_;try with_reducible exact tt
   refine CallS.pu (c1) (R1 (fs n1 m1) ?_);try with_reducible exact tt
   refine CallS.pu (c2) (R1 (fs n2 (fs m2 ew)) ?_);try with_reducible exact tt
   refine A10 (fs ew (fs n1 (fs n2 (fs m1 m2)))) ?_;try with_reducible exact tt
   refine ⟨i+1,by omega,by omega,?_⟩
   exact Sub1.refl _
  ·have hi3:¬(i:Int)<A.length:=by omega
   refine A10 hi3 ?_;try with_reducible exact tt
end
section
open Go.RowKit
def chs:Nat→Nat→Nat
 | _,0=>1
 | 0,_+1=>0
 | n+1,k+1=>chs n k+chs n (k+1)
theorem chs_z (n:Nat):chs n 0=1:=by cases n<;>rfl
theorem o_16x:∀{n k:Nat},n<k→chs n k=0
 | 0,k+1,_=>rfl
 | n+1,k+1,h=>by
  show chs n k+chs n (k+1)=0
  rw [o_16x (by omega),o_16x (by omega)]
theorem o_16y:∀n k:Nat,chs n k≤2^n
 | n,0=>by rw [chs_z];exact Nat.two_pow_pos n
 | 0,k+1=>Nat.zero_le _
 | n+1,k+1=>by
  have h1:=o_16y n k
  have h2:=o_16y n (k+1)
  show chs n k+chs n (k+1)≤2^(n+1)
  rw [Nat.pow_succ];omega
theorem o_16z:∀n k:Nat,k≤n→chs n (k+1)*(k+1)=chs n k*(n-k)
 | 0,k,h=>by
  have:k=0:=by omega
  subst this;rfl
 | n+1,0,_=>by
  have h:=o_16z n 0 (Nat.zero_le _)
  show (chs n 0+chs n 1)*1=chs (n+1) 0*(n+1)
  rw [chs_z] at h ⊢
  rw [chs_z]
  simp at h ⊢
  omega
 | n+1,k+1,h=>by
  have h1:=o_16z n k (by omega)
  show (chs n (k+1)+chs n (k+2))*(k+2)=(chs n k+chs n (k+1))*(n+1-(k+1))
  rw [show n+1-(k+1)=n-k by omega,Nat.add_mul (chs n k),←h1]
  rcases Nat.lt_or_ge k n with h3 | h3
  ·have h2:=o_16z n (k+1) (by omega)
   rw [Nat.add_mul,h2,←Nat.mul_add,←Nat.mul_add]
   congr 1;omega
  ·have e:k=n:=by omega
   subst e
   rw [o_16x (show k<k+1 by omega),o_16x (show k<k+2 by omega)];simp
def wayQ (K:Nat):Nat→Nat
 | 0=>1
 | k+1=>wayQ K k*(K-k)/(k+1)
theorem o_170 (K:Nat):∀k,k≤K+1→wayQ K k=chs K k
 | 0,_=>(chs_z K).symm
 | k+1,h=>by
  show wayQ K k*(K-k)/(k+1)=_
  rw [o_170 K k (by omega),←o_16z K k (by omega),Nat.mul_div_cancel _ (by omega)]
def binP (K k:Nat):Rat:=((wayQ K k:Nat):Rat)*mkRat 1 (2^K)
def binI (s:St):Nat→Sp
 | 0=>[]
 | i+1=>addQ (binI s i) (i,s.2.1+1,s.2.2) (binP s.1 i)
def binQ (s:St):Sp:=binI s (s.1+1)
def bex:Nat→(Nat→Rat)→Rat
 | 0,g=>g 0
 | n+1,g=>mkRat 1 2*(bex n g+bex n fun k=>g (k+1))
def csum (n:Nat) (g:Nat→Rat):Nat→Rat
 | 0=>0
 | i+1=>csum n g i+((chs n i:Nat):Rat)*g i
theorem o_171 (n:Nat) (g:Nat→Rat):∀i,csum (n+1) g (i+1)=g 0+csum n (fun k=>g (k+1)) i+(csum n g (i+1)-g 0)
 | 0=>by
  simp only [csum,chs_z]
  have:((1:Nat):Rat)=1:=rfl
  rw [this];grind
 | i+1=>by
  have ih:=o_171 n g i
  rw [csum,ih]
  have e1:csum n g (i+1+1)=csum n g (i+1)+((chs n (i+1):Nat):Rat)*g (i+1):=rfl
  have e2:csum n (fun k=>g (k+1)) (i+1)=csum n (fun k=>g (k+1)) i+((chs n i:Nat):Rat)*g (i+1):=rfl
  have e3:((chs (n+1) (i+1):Nat):Rat)=((chs n i:Nat):Rat)+((chs n (i+1):Nat):Rat):=by
   rw [←Rat.natCast_add];rfl
  rw [e1,e2,e3];grind
theorem o_172 (n:Nat):(mkRat 1 (2^n))*((2^n:Nat):Rat)=1:=by
 rw [Rat.mkRat_eq_div]
 exact Rat.div_mul_cancel (o_149 (Nat.two_pow_pos n))
theorem o_173 (n:Nat):mkRat 1 (2^(n+1))=mkRat 1 2*mkRat 1 (2^n):=by
 rw [Rat.mkRat_mul_mkRat,Nat.pow_succ,Nat.mul_comm];rfl
theorem o_174:∀(n:Nat) (g:Nat→Rat),csum n g (n+1)*mkRat 1 (2^n)=bex n g
 | 0,g=>by
  simp only [csum,bex,chs_z]
  have:((1:Nat):Rat)=1:=rfl
  rw [this,show mkRat 1 (2^0)=1 from rfl];grind
 | n+1,g=>by
  have h1:=o_174 n g
  have h2:=o_174 n fun k=>g (k+1)
  show _=mkRat 1 2*(bex n g+bex n fun k=>g (k+1))
  rw [←h1,←h2,o_171,o_173]
  have e1:csum n g (n+1+1)=csum n g (n+1):=by
   show csum n g (n+1)+((chs n (n+1):Nat):Rat)*g (n+1)=_
   rw [o_16x (by omega)]
   have:((0:Nat):Rat)=0:=rfl
   rw [this];grind
  rw [e1];grind
theorem o_175 {s:St}:∀i,∀p∈binI s i,p.1.1<i∧p.1.2=(s.2.1+1,s.2.2)
 | 0,p,hp=>by cases hp
 | i+1,p,hp=>by
  rcases o_10u hp with hp | rfl
  ·have:=o_175 i p hp
   exact ⟨by omega,this.2⟩
  ·exact ⟨by simp,rfl⟩
theorem o_176 (s:St):∀i,Uq (binI s i)
 | 0=>by simp [binI,Uq]
 | i+1=>o_10a (o_176 s i)
theorem o_177 (s:St) (g:St→Rat):∀i,i≤s.1+1→exQ g (binI s i)=csum s.1 (fun k=>g (k,s.2.1+1,s.2.2)) i*mkRat 1 (2^s.1)
 | 0,_=>by simp only [binI,exQ,csum];grind
 | i+1,h=>by
  show exQ g (addQ (binI s i) _ _)=_
  rw [o_10b g _ _ _ (o_176 s i),o_177 s g i (by omega)]
  unfold binP
  rw [o_170 _ _ (by omega)]
  simp only [csum];grind
theorem o_178 (s:St) (g:St→Rat):exQ g (binQ s)=bex s.1 fun k=>g (k,s.2.1+1,s.2.2):=by
 unfold binQ
 rw [o_177 s g _ (Nat.le_refl _),o_174]
theorem o_179 (c:Rat):∀n,bex n (fun _=>c)=c
 | 0=>rfl
 | n+1=>by
  show mkRat 1 2*(bex n (fun _=>c)+bex n fun _=>c)=c
  rw [o_179 c n]
  have h:mkRat 1 2*2=1:=by decide +kernel
  grind
end
section
open Go.RowKit
def Gi (e:Nat) (q:Rat):Prop:=∃z:Nat,q*((2^e:Nat):Rat)=(z:Rat)
theorem Gi.nn {e:Nat} {q:Rat} (h:Gi e q):0≤q:=by
 obtain ⟨z,h⟩:=h
 have hp:(0:Rat)<((2^e:Nat):Rat):=by exact_mod_cast Nat.two_pow_pos e
 apply Classical.byContradiction
 intro hn
 have hz:(0:Rat)≤(z:Rat):=by exact_mod_cast Nat.zero_le z
 have:=Rat.mul_lt_mul_of_pos_right (Rat.not_le.1 hn) hp
 grind
theorem Gi.zero (e:Nat):Gi e 0:=⟨0,by rw [Rat.zero_mul];rfl⟩
theorem Gi.one (e:Nat):Gi e 1:=⟨2^e,by rw [Rat.one_mul]⟩
theorem Gi.add {e:Nat} {x y:Rat} (hx:Gi e x) (hy:Gi e y):Gi e (x+y):=by
 obtain ⟨z,h1⟩:=hx
 obtain ⟨w,h2⟩:=hy
 refine ⟨z+w,?_⟩
 rw [Rat.natCast_add,←h1,←h2];grind
theorem Gi.mul {e f:Nat} {x y:Rat} (hx:Gi e x) (hy:Gi f y):Gi (e+f) (x*y):=by
 obtain ⟨z,h1⟩:=hx
 obtain ⟨w,h2⟩:=hy
 refine ⟨z*w,?_⟩
 rw [Rat.natCast_mul,←h1,←h2,Nat.pow_add,Rat.natCast_mul];grind
theorem Gi.up {e f:Nat} {x:Rat} (h:Gi e x) (hf:e≤f):Gi f x:=by
 have:=h.mul (Gi.one (f-e))
 rw [Rat.mul_one,show e+(f-e)=f by omega] at this
 exact this
theorem Gi.gr {e:Nat} {x:Rat} (h:Gi e x) (h1:x≤1):Gr (2^e) 1 x:=by
 obtain ⟨z,h⟩:=h
 refine ⟨z,h,?_⟩
 have hp:(0:Rat)≤((2^e:Nat):Rat):=by exact_mod_cast Nat.zero_le _
 have h2:=Rat.mul_le_mul_of_nonneg_right h1 hp
 rw [h,Rat.one_mul] at h2
 have:z≤2^e:=by exact_mod_cast h2
 omega
structure SpOK (e:Nat) (P:St→Prop) (l:Sp):Prop where
 uq:Uq l
 one:exQ (fun _=>1) l=1
 gi:∀p∈l,Gi e p.2
 ky:kyQ P l
theorem SpOK.nn {e:Nat} {P:St→Prop} {l:Sp} (h:SpOK e P l):∀p∈l,0≤p.2:=fun p hp=>(h.gi p hp).nn
theorem ex_nn {g:St→Rat}:∀{l:Sp},(∀p∈l,0≤p.2)→(∀p∈l,0≤g p.1)→0≤exQ g l
 | [],_,_=>Rat.le_refl
 | p::l,h,hg=>by
  have h1:=ex_nn (l:=l) (g:=g) (fun q hq=>h q (by simp [hq])) (fun q hq=>hg q (by simp [hq]))
  have h2:=Rat.mul_nonneg (h p (by simp)) (hg p (by simp))
  simp only [exQ];grind
theorem o_17a {l:Sp} (h0:∀p∈l,0≤p.2) (h1:exQ (fun _=>1) l≤1):∀p∈l,p.2≤1:=by
 induction l with
 | nil=>intro p hp;cases hp
 | cons q l ih =>
  have h2:0≤exQ (fun _=>(1:Rat)) l:=ex_nn (fun p hp=>h0 p (by simp [hp])) fun _ _=>(by decide:(0:Rat)≤1)
  have h3:=h0 q (by simp)
  simp only [exQ] at h1
  intro p hp
  rcases List.mem_cons.1 hp with rfl | hp
  ·grind
  ·exact ih (fun p hp=>h0 p (by simp [hp])) (by grind) p hp
theorem SpOK.gr {e:Nat} {P:St→Prop} {l:Sp} (h:SpOK e P l):∀p∈l,Gr (2^e) 1 p.2:=fun p hp=>(h.gi p hp).gr (o_17a h.nn (by rw [h.one];exact Rat.le_refl) p hp)
theorem SpOK.nz {e:Nat} {P:St→Prop} {l:Sp} (h:SpOK e P l):nzQ l≠[]:=o_168 h.one
theorem SpOK.mono {e f:Nat} {P Q:St→Prop} {l:Sp} (h:SpOK e P l) (hf:e≤f) (hQ:∀s,P s→Q s):SpOK f Q l:=⟨h.uq,h.one,fun p hp=>(h.gi p hp).up hf,fun p hp=>hQ _ (h.ky p hp)⟩
theorem SpOK.sure {P:St→Prop} (s:St) (hs:P s) (e:Nat):SpOK e P [(s,1)] where
 uq:=by simp [Uq]
 one:=by simp only [exQ];grind
 gi:=fun p hp=>by simp at hp;subst hp;exact Gi.one e
 ky:=fun p hp=>by simp at hp;subst hp;exact hs
theorem o_17b {e:Nat} {l:Sp} (h:∀p∈l,Gi e p.2) (s:St):Gi e (getQ l s):=by
 induction l with
 | nil=>exact Gi.zero e
 | cons p l ih =>
  unfold getQ
  split
  ·exact h p (by simp)
  ·exact ih fun q hq=>h q (by simp [hq])
theorem o_17c {e:Nat} {l:Sp} (h:∀p∈l,Gi e p.2) {s:St} {q:Rat} (hq:Gi e q):∀p∈addQ l s q,Gi e p.2:=by
 intro p hp
 rcases o_10u hp with hp | rfl
 ·exact h p hp
 ·exact (o_17b h s).add hq
theorem o_17d {e f:Nat} {q:Rat} (hq:Gi e q):∀{l out:Sp},(∀p∈out,Gi (e+f) p.2)→(∀p∈l,Gi f p.2)→∀p∈innQ q out l,Gi (e+f) p.2
 | [],out,h,_=>h
 | b::l,out,h,hl=>o_17d hq (out:=addQ out b.1 (q*b.2)) (l:=l) (o_17c h (hq.mul (hl b (by simp)))) fun p hp=>hl p (by simp [hp])
theorem o_17e {e f:Nat} {next:St→Sp} {l:Sp} (h:∀p∈l,Gi e p.2) (hn:∀p∈l,∀q∈next p.1,Gi f q.2):∀p∈timesQ next l,Gi (e+f) p.2:=by
 have key:∀(k out:Sp),(∀p∈out,Gi (e+f) p.2)→(∀p∈k,Gi e p.2∧∀q∈next p.1,Gi f q.2)→∀p∈k.foldl (fun out a=>innQ a.2 out (atQ (next a.1))) out,Gi (e+f) p.2:=by
  intro k
  induction k with
  | nil=>intro out h _;exact h
  | cons a k ih =>
   intro out ho hk
   obtain ⟨h1,h2⟩:=hk a (by simp)
   exact ih _ (o_17d h1 ho fun p hp=>h2 p (List.mem_filter.1 ((o_10j _).mem_iff.1 hp)).1) fun p hp=>hk p (by simp [hp])
 refine key _ _ (fun p hp=>by cases hp) fun p hp=>?_
 have hp':=(List.mem_filter.1 ((o_10j l).mem_iff.1 hp)).1
 exact ⟨h p hp',hn p hp'⟩
theorem o_17f {g h:St→Rat}:∀{l:Sp},(∀p∈l,g p.1=h p.1)→exQ g l=exQ h l
 | [],_=>rfl
 | p::l,hl=>by
  simp only [exQ]
  rw [hl p (by simp),o_17f (l:=l) fun q hq=>hl q (by simp [hq])]
theorem SpOK.times {e f:Nat} {P Q:St→Prop} {next:St→Sp} {l:Sp} (h:SpOK e P l) (hn:∀s,P s→SpOK f Q (next s)):SpOK (e+f) Q (timesQ next l) where
 uq:=o_10q _ _
 one:=by
  rw [o_10r,o_17f (h:=fun _=>1) fun p hp=>(hn _ (h.ky p hp)).one]
  exact h.one
 gi:=o_17e h.gi fun p hp=>(hn _ (h.ky p hp)).gi
 ky:=by
  have key:∀(k out:Sp),kyQ Q out→(∀p∈k,P p.1)→kyQ Q (k.foldl (fun out a=>innQ a.2 out (atQ (next a.1))) out):=by
   intro k
   induction k with
   | nil=>intro out h _;exact h
   | cons a k ih =>
    intro out ho hk
    exact ih _ (o_14s ho (ky_at (hn _ (hk a (by simp))).ky)) fun p hp=>hk p (by simp [hp])
  exact key _ _ (fun p hp=>by cases hp) fun p hp=>h.ky p (List.mem_filter.1 ((o_10j l).mem_iff.1 hp)).1
theorem o_17g (n:Nat):Gi n (mkRat 1 (2^n)):=⟨1,o_172 n⟩
theorem o_17h (n:Nat):Gi n (1-mkRat 1 (2^n)):=by
 refine ⟨2^n-1,?_⟩
 have h:=o_172 n
 have h1:=Nat.two_pow_pos n
 have e:((2^n:Nat):Rat)=((2^n-1:Nat):Rat)+((1:Nat):Rat):=by rw [←Rat.natCast_add,Nat.sub_add_cancel h1]
 have e1:((1:Nat):Rat)=1:=rfl
 rw [e1] at e
 grind
theorem SpOK.eit {e:Nat} {P:St→Prop} {x:Rat} {s o:St} (hx:Gi e x) (hy:Gi e (1-x)) (hs:P s) (ho:P o):SpOK e P (eitQ x s o) where
 uq:=(o_10s (fun _=>0) x s o).1
 one:=by rw [(o_10s (fun _=>1) x s o).2];grind
 gi:=o_17c (o_17c (fun p hp=>by cases hp) hx) hy
 ky:=fun p hp=>by
  unfold eitQ at hp
  rcases o_10u hp with hp | rfl
  ·rcases o_10u hp with hp | rfl
   ·cases hp
   ·exact hs
  ·exact ho
theorem SpOK.bin (s:St):SpOK s.1 (fun t=>t.1≤s.1∧t.2=(s.2.1+1,s.2.2)) (binQ s) where
 uq:=o_176 s _
 one:=by rw [o_178,o_179]
 gi:=by
  have key:∀i,i≤s.1+1→∀p∈binI s i,Gi s.1 p.2:=by
   intro i
   induction i with
   | zero=>intro _ p hp;cases hp
   | succ i ih =>
    intro hi
    refine o_17c (ih (by omega)) ?_
    have h:=(o_17g s.1)
    obtain ⟨z,hz⟩:=h
    refine ⟨wayQ s.1 i*z,?_⟩
    unfold binP
    rw [Rat.natCast_mul,←hz];grind
  exact key _ (Nat.le_refl _)
 ky:=fun p hp=>by
  have:=o_175 _ p hp
  exact ⟨by omega,this.2⟩
def downF (A:Nat):Nat→St→Sp
 | 0,s=>if s.1≤A then [(s,1)] else [((A,s.2.1,true),1)]
 | f+1,s=>if s.1≤A then [(s,1)] else timesQ (downF A f) (binQ s)
def downA (A B:Nat) (s:St):Sp:=downF A (B-s.2.1) s
theorem o_17i {next next':St→Sp} {l:Sp} (h:∀p∈l,next p.1=next' p.1):timesQ next l=timesQ next' l:=by
 have key:∀(k out:Sp),(∀p∈k,next p.1=next' p.1)→k.foldl (fun out a=>innQ a.2 out (atQ (next a.1))) out=k.foldl (fun out a=>innQ a.2 out (atQ (next' a.1))) out:=by
  intro k
  induction k with
  | nil=>intro out _;rfl
  | cons a k ih =>
   intro out hk
   rw [List.foldl_cons,List.foldl_cons,hk a (by simp)]
   exact ih _ fun p hp=>hk p (by simp [hp])
 exact key _ _ fun p hp=>h p (List.mem_filter.1 ((o_10j l).mem_iff.1 hp)).1
theorem o_17j {A B:Nat} {s:St} (h:s.1≤A):downA A B s=[(s,1)]:=by
 unfold downA
 generalize B-s.2.1=f
 cases f<;>simp [downF,h]
theorem o_17k {A B:Nat} {s:St} (h:¬s.1≤A) (hT:s.2.1=B):downA A B s=[((A,s.2.1,true),1)]:=by
 unfold downA
 rw [show B-s.2.1=0 by omega]
 simp [downF,h]
theorem o_17l {A B:Nat} {s:St} (h:¬s.1≤A) (hT:s.2.1<B):downA A B s=timesQ (downA A B) (binQ s):=by
 have e:downA A B s=timesQ (downF A (B-s.2.1-1)) (binQ s):=by
  unfold downA
  obtain ⟨f,hf⟩:∃f,B-s.2.1=f+1:=⟨B-s.2.1-1,by omega⟩
  rw [hf]
  simp [downF,h]
 rw [e]
 refine o_17i fun p hp=>?_
 have:=(o_175 _ p hp).2
 unfold downA
 rw [this]
 congr 1
def okT (A B:Nat) (s:St):Prop:=s.1≤A∧s.2.1≤B∧(s.2.2=true→s.2.1=B)
theorem SpOK.down {A B X:Nat}:∀(f:Nat) (s:St),s.2.1+f=B→s.1≤X→(s.2.2=true→s.2.1=B)→SpOK (X*f) (okT A B) (downA A B s)
 | 0,s,hT,hX,hf=>by
  by_cases h:s.1≤A
  ·rw [o_17j h];exact SpOK.sure s ⟨h,by omega,hf⟩ _
  ·rw [o_17k h (by omega)];exact SpOK.sure _ ⟨Nat.le_refl _,by simp only;omega,fun _=>by simp only;omega⟩ _
 | f+1,s,hT,hX,hf=>by
  by_cases h:s.1≤A
  ·rw [o_17j h];exact SpOK.sure s ⟨h,by omega,hf⟩ _
  ·rw [o_17l h (by omega)]
   have hb:=(SpOK.bin s).mono hX fun _ h=>h
   have:=hb.times (f:=X*f) (Q:=okT A B) (next:=downA A B) fun t ht=>SpOK.down f t (by rw [ht.2];simp only;omega) (by omega) (fun h2=>by
    rw [ht.2] at h2
    have:=hf h2
    omega)
   refine this.mono ?_ fun _ h=>h
   rw [Nat.mul_add];omega
def stepT (A B:Nat) (s:St):Sp:=timesQ (downA A B) (eitQ (mkRat 1 (2^s.2.1)) (s.1+1,s.2) s)
theorem SpOK.stepT {A B:Nat} {s:St} (h:okT A B s):SpOK (B+(A+1)*B) (okT A B) (stepT A B s):=by
 obtain ⟨h1,h2,h3⟩:=h
 have he:SpOK B (fun t=>t.1≤A+1∧t.2=s.2) (eitQ (mkRat 1 (2^s.2.1)) (s.1+1,s.2) s):=SpOK.eit ((o_17g _).up h2) ((o_17h _).up h2) ⟨by simp only;omega,rfl⟩ ⟨by omega,rfl⟩
 refine he.times fun t ht=>?_
 refine (SpOK.down (A:=A) (X:=A+1) (B-s.2.1) t (by rw [ht.2];omega) ht.1 (by rw [ht.2];exact h3)).mono (Nat.mul_le_mul_left _ (by omega)) fun _ h=>h
theorem SpOK.of {e:Nat} {P:St→Prop} {next:St→Sp} (hn:∀s,P s→SpOK e P (next s)) {s:St} (hs:P s):∀n,SpOK (n*e) P (ofQ next s n)
 | 0=>SpOK.sure s hs _
 | n+1=>by
  have:=(SpOK.of hn hs n).times hn
  rw [Nat.add_mul,Nat.one_mul]
  exact this
def thinQ (s:St) (n:Nat):Sp:=ofQ binQ s n
theorem SpOK.thin (s:St):∀n,SpOK (n*s.1) (fun t=>t.1≤s.1∧t.2=(s.2.1+n,s.2.2)) (thinQ s n)
 | 0=>SpOK.sure s ⟨Nat.le_refl _,rfl⟩ _
 | n+1=>by
  have:=(SpOK.thin s n).times (f:=s.1) (Q:=fun t=>t.1≤s.1∧t.2=(s.2.1+(n+1),s.2.2)) (next:=binQ) fun t ht=>(SpOK.bin t).mono ht.1 fun u hu=>⟨by omega,by rw [hu.2,ht.2];simp only [Nat.add_assoc]⟩
  rw [Nat.add_mul,Nat.one_mul]
  exact this
def joI (f:Bool) (x:St×Rat) (B:Sp) (out:Sp) (j:Nat):Sp:=(B.take j).foldl (fun out y=>addQ out (x.1.1+y.1.1,x.1.2.1,f) (x.2*y.2)) out
def joO (f:Bool) (A B:Sp) (i:Nat):Sp:=(A.take i).foldl (fun out x=>joI f x B out B.length) []
def joQ (f:Bool) (A B:Sp):Sp:=joO f A B A.length
theorem o_17m (f:Bool) (x:St×Rat) (B out:Sp) (j:Nat) (h:j<B.length):joI f x B out (j+1)=addQ (joI f x B out j) (x.1.1+B[j].1.1,x.1.2.1,f) (x.2*B[j].2):=by
 unfold joI;rw [List.take_add_one,List.getElem?_eq_getElem h,Option.toList,List.foldl_append];rfl
theorem o_17n (f:Bool) (A B:Sp) (i:Nat) (h:i<A.length):joO f A B (i+1)=joI f A[i] B (joO f A B i) B.length:=by
 unfold joO;rw [List.take_add_one,List.getElem?_eq_getElem h,Option.toList,List.foldl_append];rfl
def mgT (A B:Nat) (s o:St):Sp:=timesQ (downA A B) (joQ (s.2.2 || o.2.2) (atQ (thinQ s (o.2.1-s.2.1))) (atQ (thinQ o (s.2.1-o.2.1))))
theorem o_17o (g:St→Rat) (f:Bool) (x:St×Rat) (B:Sp):∀(j:Nat) (out:Sp),j≤B.length→Uq out→Uq (joI f x B out j)∧exQ g (joI f x B out j)=exQ g out+x.2*exQ (fun t=>g (x.1.1+t.1,x.1.2.1,f)) (B.take j)
 | 0,out,_,h=>⟨h,by simp only [joI,List.take_zero,List.foldl_nil,exQ];grind⟩
 | j+1,out,hj,h=>by
  obtain ⟨h1,h2⟩:=o_17o g f x B j out (by omega) h
  rw [o_17m f x B out j (by omega)]
  refine ⟨o_10a h1,?_⟩
  rw [o_10b g _ _ _ h1,h2,List.take_add_one,List.getElem?_eq_getElem (by omega:j<B.length),Option.toList,o_10d]
  simp only [exQ];grind
theorem o_17p (g:St→Rat) (f:Bool) (A B:Sp):∀i,i≤A.length→Uq (joO f A B i)∧exQ g (joO f A B i)=exQ (fun s=>exQ (fun t=>g (s.1+t.1,s.2.1,f)) B) (A.take i)
 | 0,_=>by simp [joO,Uq,exQ]
 | i+1,hi=>by
  obtain ⟨h1,h2⟩:=o_17p g f A B i (by omega)
  rw [o_17n f A B i hi]
  obtain ⟨h3,h4⟩:=o_17o g f A[i] B B.length (joO f A B i) (Nat.le_refl _) h1
  refine ⟨h3,?_⟩
  rw [h4,h2,List.take_length,List.take_add_one,List.getElem?_eq_getElem (by omega:i<A.length),Option.toList,o_10d]
  simp only [exQ];grind
theorem o_17q (g:St→Rat) (f:Bool) (A B:Sp):exQ g (joQ f A B)=exQ (fun s=>exQ (fun t=>g (s.1+t.1,s.2.1,f)) B) A:=by
 have:=(o_17p g f A B A.length (Nat.le_refl _)).2
 rw [List.take_length] at this
 exact this
theorem SpOK.at {e:Nat} {P:St→Prop} {l:Sp} (h:SpOK e P l):SpOK e P (atQ l) where
 uq:=uq_at h.uq
 one:=by rw [ex_at];exact h.one
 gi:=fun p hp=>h.gi p (List.mem_filter.1 ((o_10j l).mem_iff.1 hp)).1
 ky:=ky_at h.ky
theorem SpOK.join {e f:Nat} {P Q R:St→Prop} {A B:Sp} {b:Bool} (hA:SpOK e P A) (hB:SpOK f Q B) (hR:∀s t,P s→Q t→R (s.1+t.1,s.2.1,b)):SpOK (e+f) R (joQ b A B) where
 uq:=(o_17p (fun _=>0) b A B A.length (Nat.le_refl _)).1
 one:=by
  rw [o_17q,o_17f (h:=fun _=>1) fun p _=>hB.one]
  exact hA.one
 gi:=by
  have h1:∀(x:St×Rat),x∈A→∀(j:Nat) (out:Sp),j≤B.length→(∀p∈out,Gi (e+f) p.2)→∀p∈joI b x B out j,Gi (e+f) p.2:=by
   intro x hx j
   induction j with
   | zero=>intro out _ h p hp;exact h p (by simpa [joI] using hp)
   | succ j ih =>
    intro out hj h
    rw [o_17m b x B out j (by omega)]
    exact o_17c (ih out (by omega) h) ((hA.gi x hx).mul (hB.gi _ (List.getElem_mem _)))
  have h2:∀i,i≤A.length→∀p∈joO b A B i,Gi (e+f) p.2:=by
   intro i
   induction i with
   | zero=>intro _ p hp;simp [joO] at hp
   | succ i ih =>
    intro hi
    rw [o_17n b A B i hi]
    exact h1 _ (List.getElem_mem _) _ _ (Nat.le_refl _) (ih (by omega))
  exact h2 _ (Nat.le_refl _)
 ky:=by
  have h1:∀(x:St×Rat),x∈A→∀(j:Nat) (out:Sp),j≤B.length→kyQ R out→kyQ R (joI b x B out j):=by
   intro x hx j
   induction j with
   | zero=>intro out _ h p hp;exact h p (by simpa [joI] using hp)
   | succ j ih =>
    intro out hj h
    rw [o_17m b x B out j (by omega)]
    intro p hp
    rcases o_10u hp with hp | rfl
    ·exact ih out (by omega) h p hp
    ·exact hR _ _ (hA.ky x hx) (hB.ky _ (List.getElem_mem _))
  have h2:∀i,i≤A.length→kyQ R (joO b A B i):=by
   intro i
   induction i with
   | zero=>intro _ p hp;simp [joO] at hp
   | succ i ih =>
    intro hi
    rw [o_17n b A B i hi]
    exact h1 _ (List.getElem_mem _) _ _ (Nat.le_refl _) (ih (by omega))
  exact h2 _ (Nat.le_refl _)
theorem SpOK.mgT {A B:Nat} {s o:St} (hs:okT A B s) (ho:okT A B o):SpOK (B*A+B*A+(A+A)*B) (okT A B) (mgT A B s o):=by
 obtain ⟨s1,s2,s3⟩:=hs
 obtain ⟨o1,o2,o3⟩:=ho
 have ha:=(SpOK.thin s (o.2.1-s.2.1)).at.mono (f:=B*A) (Nat.mul_le_mul (by omega) s1) fun _ h=>h
 have hb:=(SpOK.thin o (s.2.1-o.2.1)).at.mono (f:=B*A) (Nat.mul_le_mul (by omega) o1) fun _ h=>h
 have hj:=ha.join (R:=fun t=>t.1≤A+A∧t.2=(max s.2.1 o.2.1,s.2.2 || o.2.2)) (b:=s.2.2 || o.2.2) hb fun t u ht hu=>⟨by simp only;omega,by simp only [ht.2,Prod.mk.injEq,and_true];omega⟩
 refine hj.times fun t ht=>?_
 refine (SpOK.down (A:=A) (X:=A+A) (B-max s.2.1 o.2.1) t (by rw [ht.2];simp only;omega) ht.1 (by
  rw [ht.2]
  simp only [Bool.or_eq_true]
  rintro (h | h)
  ·have:=s3 h;omega
  ·have:=o3 h;omega)).mono (Nat.mul_le_mul_left _ (by omega)) fun _ h=>h
end
section
open Go.RowKit
section
variable {top:Nat} {c V:Nat→Rat}
end
end
section
open Go.RowKit
section
variable {V:St→Rat} {l:Sp} (h0:∀p∈l,0≤p.2)
 include h0
end
end
section
open Go.RowKit
theorem o_17r:rD 0 = .agg [natW 0,.bool false,natW 0]:=by rfl
theorem sub_zero:Sub1 (.d (.agg [.nilsl,.bool false,.nilsl])) (.d (rD 0)):=by
 rw [o_17r]
 exact Sub1.aggd (Subs.cons Sub1.nil (Subs.cons (Sub1.refl _) (Subs.cons Sub1.nil (Subs.refl _))))
end
section
open Go.RowKit
end
section
open Go.RowKit
def vlQ (k a w:Nat) (s:St):Rat:=valR k a w s.1 s.2.1
end
section
open Go.RowKit
theorem o_17s:∀{l:Sp},Uq l→∀p∈l,getQ l p.1=p.2
 | q::l,hu,p,hp=>by
  unfold Uq at hu
  rw [List.map_cons,List.nodup_cons] at hu
  unfold getQ
  rcases List.mem_cons.1 hp with rfl | hp
  ·simp
  ·rw [if_neg fun e=>hu.1 (List.mem_map.2 ⟨p,hp,e⟩)]
   exact o_17s hu.2 p hp
theorem o_17t:∀{l:Sp} {t:St},getQ l t≠0→(t,getQ l t)∈l
 | [],t,h=>by simp [getQ] at h
 | q::l,t,h=>by
  unfold getQ at h ⊢
  split
  ·rename_i e
   simp [e]
  ·rename_i e
   rw [if_neg e] at h
   exact List.mem_cons_of_mem _ (o_17t h)
theorem o_17u {l:Sp} (h:Uq l):l.Nodup:=by
 unfold Uq at h
 rw [List.nodup_iff_pairwise_ne,List.pairwise_map] at h
 exact List.nodup_iff_pairwise_ne.2 (h.imp fun hne e=>hne (by rw [e]))
theorem o_17v {A B:Sp} (hA:Uq A) (hB:Uq B) (h:∀t,getQ A t=getQ B t):atQ A=atQ B:=by
 have key:∀{A B:Sp},Uq A→(∀t,getQ A t=getQ B t)→∀p,p∈nzQ A→p∈nzQ B:=fun {A B} hA h p hp=>by
  obtain ⟨h1,h2⟩:=List.mem_filter.1 hp
  have h3:=o_17s hA p h1
  have h4:p.2≠0:=by simpa using h2
  rw [h] at h3
  have h5:=o_17t (l:=B) (t:=p.1) (by rw [h3];exact h4)
  rw [h3] at h5
  exact List.mem_filter.2 ⟨h5,h2⟩
 have hp:(nzQ A).Perm (nzQ B):=(List.perm_ext_iff_of_nodup (o_17u (uq_nz hA)) (o_17u (uq_nz hB))).2 fun p=>⟨key hA h p,key hB (fun t=>(h t).symm) p⟩
 refine o_10l hB ((o_10j A).trans hp) ?_
 have h2:(atQ A).Pairwise fun a b=>leP a b=true:=List.pairwise_mergeSort o_10h o_10i _
 have h3:(atQ A).Pairwise fun a b=>a.1≠b.1:=by
  have:=uq_at hA
  unfold Uq at this
  rwa [List.nodup_iff_pairwise_ne,List.pairwise_map] at this
 refine (h2.and h3).imp ?_
 rintro a b ⟨h4,h5⟩
 unfold leP at h4
 rcases o_10g a.1 b.1 with h | h | h
 ·exact h
 ·exact absurd h h5
 ·rw [h] at h4;simp [h5] at h4
end
section
open Go.RowKit
end
section
open Go.RowKit
end
section
open Go.RowKit
theorem o_17w (s:St):atQ [(s,(1:Rat))]=[(s,1)]:=by
 have:nzQ [(s,(1:Rat))]=[(s,1)]:=by simp [nzQ]
 rw [atQ,this,List.mergeSort_singleton]
end
section
open Go.RowKit
end
section
open Go.RowKit
end
section
open Go.RowKit
end
section
open Go.RowKit
end
section
open Go.RowKit
def grB (D C:Nat) (q:Rat):Bool:=(q*(D:Rat)).den==1&&decide (0≤(q*(D:Rat)).num)&&decide ((q*(D:Rat)).num.toNat≤C*D)
theorem o_17x {D C:Nat} {q:Rat} (h:grB D C q=true):Gr D C q:=by
 unfold grB at h
 simp only [Bool.and_eq_true,beq_iff_eq,decide_eq_true_eq] at h
 obtain ⟨⟨h1,h2⟩,h3⟩:=h
 refine ⟨(q*(D:Rat)).num.toNat,?_,h3⟩
 generalize q*(D:Rat)=y at *
 have h4:((y.num.toNat:Nat):Int)=y.num:=Int.toNat_of_nonneg h2
 refine Rat.ext ?_ ?_
 ·rw [Rat.num_natCast,h4]
 ·rw [Rat.den_natCast,h1]
def valAll:Bool:=[(1,1),(1,2),(1,3),(1,4),(2,0),(2,1),(3,1),(3,2)].all fun z=>(List.range 16).all fun x=>grB (12^15) (2^24) (valC z.1 z.2 x)
theorem o_17y:valAll=true:=by kernel_rfl
theorem o_17z {k a w:Nat} (h:GoodS k a w) (x:Nat) (hx:x≤15):Gr (12^15) (2^24) (valC k a x):=by
 have h1:=o_17y
 unfold valAll at h1
 rw [List.all_eq_true] at h1
 have h2:=h1 (k,a) (by
  rcases h.1 with ⟨rfl,h2,h3⟩ | ⟨rfl,h2⟩ | ⟨rfl,h2,h3⟩
  ·have:a=1∨a=2∨a=3∨a=4:=by omega
   rcases this with rfl | rfl | rfl | rfl<;>simp
  ·have:a=0∨a=1:=by omega
   rcases this with rfl | rfl<;>simp
  ·have:a=1∨a=2:=by omega
   rcases this with rfl | rfl<;>simp)
 rw [List.all_eq_true] at h2
 exact o_17x (h2 x (List.mem_range.2 (by omega)))
end
section
open Go.RowKit
structure LsOK (k a w:Nat) (L:Sp) (D C E V:Nat):Prop where
 len:L.length≤1000
 one:exQ (fun _=>1) L=1
 dp:0<D
 cp:1≤C
 ep:0<E
 vp:1≤V
 sd:size D≤220
 sc:size C≤70
 se:size E≤2
 sv:size V≤2
 well:∀p∈L,WellR k a w p.1.1 p.1.2.1 p.1.2.2
 gr:∀p∈L,Gr D C p.2
 vg:∀p∈L,Gr E V (vlQ k a w p.1)
theorem Gr.nn {D B:Nat} {q:Rat} (hD:0<D) (h:Gr D B q):0≤q:=by
 obtain ⟨z,h1,-⟩:=h
 have hp:(0:Rat)<(D:Rat):=by exact_mod_cast hD
 apply Classical.byContradiction
 intro hn
 have hz:(0:Rat)≤(z:Rat):=by exact_mod_cast Nat.zero_le z
 have:=Rat.mul_lt_mul_of_pos_right (Rat.not_le.1 hn) hp
 grind
theorem LsOK.nn {k a w:Nat} {L:Sp} {D C E V:Nat} (h:LsOK k a w L D C E V):∀p∈L,0≤p.2:=fun p hp=>(h.gr p hp).nn h.dp
theorem o_180 {k a w:Nat} (h:GoodS k a w) {s:St} (hs:okQ (topC w) s) (n:Nat) (hn:n≤15):∃D C E V,LsOK k a w (atQ (dstQ k a w s n)) D C E V:=by
 have h8:2^w≤16:=Nat.pow_le_pow_right (n:=2) (by omega) h.2.2
 have h7:topC w≤15:=by unfold topC;omega
 have hk4:¬k=4:=by have:=h.1;omega
 obtain ⟨c0,c1⟩:=o_14z h
 obtain ⟨G0,hG,hG63,hc⟩:=o_14a h
 have mem:∀p∈atQ (dstQ k a w s n),p∈dstQ k a w s n:=fun p hp=>(List.mem_filter.1 ((o_10j _).mem_iff.1 hp)).1
 have okA:oklQ (topC w) (atQ (dstQ k a w s n)):=ok_at (ok_of (c:=chP k a) c0 c1 hs n)
 have hl:=o_161 (of_uq _ s n) (o_14v (c:=chP k a) hs n)
 refine ⟨G0^n,80^n,12^15,2^24,?_,?_,Nat.pow_pos hG,Nat.pow_pos (by decide),by decide,by decide,?_,?_,?_,?_,fun p hp=>wellQ h (okA p hp).1,fun p hp=>o_162 h7 c0 c1 (fun x hx=>hc x (by omega)) hs n p (mem p hp),fun p hp=>?_⟩
 ·have:=o_14j (dstQ k a w s n)
  have:(dstQ k a w s n).length≤topC w+2:=hl
  omega
 ·rw [ex_at];exact o_110 _ _
 ·have:=o_14x G0 (o_oi (Nat.lt_of_le_of_lt hG63 (by decide))) n;omega
 ·have:=o_14x 80 (o_oi (by decide)) n;omega
 ·exact Nat.le_trans (o_oi (by decide)) (by omega)
 ·exact Nat.le_trans (o_oi (by decide)) (by omega)
 ·have:=(okA p hp).1.1
  show Gr _ _ (valR k a w p.1.1 p.1.2.1)
  unfold valR
  rw [if_neg hk4]
  exact o_17z h _ (by omega)
theorem o_181 {n V:Nat} (h:n≤V):Gr 1 V ((n:Nat):Rat):=⟨n,by rw [show ((1:Nat):Rat)=1 from rfl,Rat.mul_one],by omega⟩
end
section
open Go.RowKit
theorem o_182 (n:Nat) (hn:n≤8192):Eqn Tryz.prog o_e1 [.d (.int .i64 n)] [] (.d (rD (mkRat 1 (2^n)))) []:=by
 refine Eqn.pure o_e3 Plain.ok ?_
 have hh:=o_tj n (by omega)
 rw [show D.agg [natW 1,.bool false,natW (2^n-1)]=rD (mkRat 1 (2^n)) from o_120 n] at hh
 obtain ⟨A1,A2,A3,hA⟩:∃A1 A2 A3,rD (mkRat 1 (2^n)) = .agg [A1,A2,A3]:=⟨_,_,_,rfl⟩
 rw [hA] at hh ⊢
 refine cc (c':=?z283) ?_ ?_
 case refine_1=>cbv<;>exact rfl
 refine A00 ?_;try with_reducible exact tt
 refine CallS.pu (hh) (R0 ?_);try with_reducible exact tt
theorem o_183 (n:Nat):size (2^n)≤n+1:=o_14x 2 (o_oi (by decide)) n
theorem Gi.rs {e:Nat} {x:Rat} (h:Gi e x) (h1:x≤1) (he:e≤90000):RS x 90001:=(h.gr h1).rs (Nat.two_pow_pos e) (Nat.le_refl _) (by rw [Nat.one_mul];have:=o_183 e;omega)
theorem SpOK.rs {e:Nat} {P:St→Prop} {l:Sp} (h:SpOK e P l) (he:e≤90000):∀p∈l,RS p.2 100000:=fun p hp=>((h.gi p hp).rs (o_17a h.nn (by rw [h.one];exact Rat.le_refl) p hp) he).le (by omega)
theorem o_184 {s:St}:∀{l:Sp},(∀p∈l,p.1≠s)→getQ l s=0
 | [],_=>rfl
 | p::l,h=>by
  unfold getQ
  rw [if_neg fun e=>h p (by simp) e.symm]
  exact o_184 fun q hq=>h q (by simp [hq])
theorem o_185 {K k:Nat} (hK:K≤1000) (hk:k≤K):RS (binP K k) 100000:=by
 have h1:Gi K (binP K k):=by
  obtain ⟨z,hz⟩:=o_17g K
  refine ⟨wayQ K k*z,?_⟩
  unfold binP
  rw [Rat.natCast_mul,←hz];grind
 have h2:binP K k≤1:=by
  unfold binP
  rw [o_170 K k (by omega)]
  have hp:=o_172 K
  have h0:(0:Rat)≤mkRat 1 (2^K):=(o_17g K).nn
  have h3:((chs K k:Nat):Rat)≤((2^K:Nat):Rat):=by exact_mod_cast o_16y K k
  have:=Rat.mul_le_mul_of_nonneg_right h3 h0
  grind
 exact (h1.rs h2 (by omega)).le (by omega)
set_option maxHeartbeats 4000000 in
theorem o_186 (s:St) (hK:s.1≤1000) (hT:s.2.1≤1000):Eqn Tryz.prog o_gz [.d (.agg (stD s))] [] (.mp 0) [spO (binQ s)]:=by
 obtain ⟨K,T,f⟩:=s
 simp only at hK hT
 refine Eqn.gen [1] o_h1 (by simp) (by simp) (by rfl) (by decide) (by simp) (by simp [spO]) ?_
 have hof:∀y:Nat,y<2^60→Eqn Tryz.prog o_dj [.d (.sl 1 [.int .u64 y])] [] (.d (.agg [natW y])) []:=fun y hy=>by
  have:=o_ng [y] (o_oc (by omega)) (by simp)
  simpa [W,wval] using this
 have ho1:=hof 1 (by omega)
 have hh:=o_182 K (by omega)
 have eT:IntKind.i64.wrap ((T:Int)+1)=((T+1:Nat):Int):=by rw [w64 (by omega) (by omega)];omega
 refine cc (c':=?z284) ?_ ?_
 case refine_1=>cbv<;>exact rfl
 try simp only [stD,spO,rD_rc] at hh ⊢
 refine A00 ?_;try with_reducible exact tt
 refine CallS.pf 2 1 ⟨181,_⟩ [.int .u64 (1:Nat)] (ho1) (by first | rfl | (simp;done)) (R0 ?_);try with_reducible exact tt
 refine A00 ?_;try with_reducible exact tt
 refine AW.loopW (α:=Nat) (fun k=>setS (List.replicate 50 .junk) [(1,.p 0 0),(3,.mp 1),(4,.p 3 0),(5,.d (.int .i64 (k:Nat)))]) (fun k=>[some ⟨64,[.d (.int .i64 K),.d (.int .i64 T),.d (.bool f)]⟩,some ⟨1000391,(spD rcD (binI (K,T,f) k)).map .d⟩,none,some ⟨43,[.d (natW (wayQ K k))]⟩]) (fun k=>k≤K+1) (fun k=>K+1-k) 4 (fun _=>rfl) (Nat.zero_le _) 0 (Nat.zero_le _) ?_ ?_ ?_
 ·simp
 ·simp [binI,wayQ,spD]
 rintro k hk
 simp
 by_cases hk2:k≤K
 ·have hk3:(k:Int)≤K:=by omega
  have ew:IntKind.i64.wrap ((k:Int)+1)=((k+1:Nat):Int):=by rw [w64 (by omega) (by omega)];omega
  have es:IntKind.i64.wrap ((K:Int)-k)=((K-k:Nat):Int):=by rw [w64 (by omega) (by omega)];omega
  have eu:IntKind.u64.wrap ((K-k:Nat):Int)=((K-k:Nat):Int):=wu64 (by omega) (by omega)
  have eu2:IntKind.u64.wrap ((k+1:Nat):Int)=((k+1:Nat):Int):=wu64 (by omega) (by omega)
  have hw:size (wayQ K k)≤1001:=by
   rw [o_170 K k (by omega)]
   have:=o_o0 (o_16y K k)
   have:=o_183 K
   omega
  have hrn:=o_vc (wayQ K k)
  have s1:RS ((wayQ K k:Nat):Rat) 100000:=by
   have hg:Gr 1 (2^K) ((wayQ K k:Nat):Rat):=⟨wayQ K k,by rw [show ((1:Nat):Rat)=1 from rfl,Rat.mul_one],by rw [o_170 K k (by omega),Nat.mul_one];exact o_16y K k⟩
   exact hg.rs (by decide) (Nat.two_pow_pos K) (by rw [Nat.mul_one];have:=o_183 K;omega)
  have s2:RS (mkRat 1 (2^K)) 100000:=by
   have h1:RS (mkRat 1 (2^K)) 1001:=RS.mk' (Nat.two_pow_pos K) (Nat.le_trans (o_oi (by decide)) (by omega)) (by have:=o_183 K;omega)
   exact h1.le (by omega)
  have hm:=o_v7 ((wayQ K k:Nat):Rat) (mkRat 1 (2^K)) s1 s2
  rw [show ((wayQ K k:Nat):Rat)*mkRat 1 (2^K)=binP K k from rfl] at hm
  have hgt:getQ (binI (K,T,f) k) (k,T+1,f)=0:=o_184 fun p hp e=>by
   have:=(o_175 k p hp).1
   rw [e] at this
   simp only at this
   omega
  have hadd:=o_11v (binI (K,T,f) k) (k,T+1,f) (binP K k) (by rw [hgt];exact ⟨by decide,by decide⟩) (o_185 hK hk2)
  rw [show addQ (binI (K,T,f) k) (k,T+1,f) (binP K k)=binI (K,T,f) (k+1) from rfl] at hadd
  have hsk:size (K-k)≤1:=o_oi (by omega)
  have hmu:=o_t9 (wayQ K k) (K-k) (by omega) (by omega)
  have hdv:=o_tf (wayQ K k*(K-k)) (k+1) (by have:=o_ut (wayQ K k) (K-k);omega) (by omega) (.inl (by omega)) (Nat.le_trans (o_oi (by omega)) (by omega))
  have ho2:=hof (K-k) (by omega)
  have ho3:=hof (k+1) (by omega)
  rw [show wayQ K k*(K-k)/(k+1)=wayQ K (k+1) from rfl] at hdv
  obtain ⟨A1,A2,A3,hA⟩:∃A1 A2 A3,rcD ((wayQ K k:Nat):Rat)=[A1,A2,A3]:=⟨_,_,_,rfl⟩
  obtain ⟨H1,H2,H3,hH⟩:∃H1 H2 H3,rcD (mkRat 1 (2^K))=[H1,H2,H3]:=⟨_,_,_,rfl⟩
  obtain ⟨B1,B2,B3,hB⟩:∃B1 B2 B3,rcD (binP K k)=[B1,B2,B3]:=⟨_,_,_,rfl⟩
  simp only [rD_rc,stD,spO] at hrn hm hadd
  rw [hA] at hrn hm
  rw [hH] at hm hh
  rw [hB] at hm hadd
  obtain ⟨M,hM⟩:∃M,M=wayQ K k*(K-k):=⟨_,rfl⟩
  rw [←hM] at hmu hdv
  obtain ⟨R,hR⟩:∃R,R=M%(k+1):=⟨_,rfl⟩
  rw [←hR] at hdv
  obtain ⟨WN,hWN⟩:∃WN,WN=wayQ K (k+1):=⟨_,rfl⟩
  rw [←hWN] at hdv
  generalize wayQ K k=WK at *
  obtain ⟨k1,hk1⟩:∃k1,k1=k+1:=⟨_,rfl⟩
  obtain ⟨T1,hT1⟩:∃T1,T1=T+1:=⟨_,rfl⟩
  obtain ⟨Kk,hKk⟩:∃Kk,Kk=K-k:=⟨_,rfl⟩
  rw [←hT1] at hadd eT
  rw [←hk1] at hdv ho3 eu2 ew hadd
  rw [←hKk] at hmu ho2 eu es
  refine A10 (fs hk2 (fs hk3 eT)) ?_;try with_reducible exact tt
  refine CallS.pu (hrn) (R0 ?_);try with_reducible exact tt
  refine CallS.pu (hh) (R0 ?_);try with_reducible exact tt
  refine CallS.pu (hm) (R0 ?_);try with_reducible exact tt
  have eK:(K:Int)-k=(Kk:Int):=by omega
  have ek:(k:Int)+1=(k1:Int):=by omega
  refine CallS.g [1] (hadd) (R1 (fs es eu) ?_);try with_reducible exact tt
  refine A10 (fs es (fs eu eK)) ?_;try with_reducible exact tt
  refine CallS.pf 4 1 ⟨181,_⟩ [.int .u64 Kk] (ho2) (by first | rfl | (simp [eK];done)) (R1 eK ?_);try with_reducible exact tt
  refine CallS.pu (hmu) (R1 (fs ew eu2) ?_);try with_reducible exact tt
  refine A10 (fs ew (fs eu2 ek)) ?_;try with_reducible exact tt
  refine CallS.pf 5 1 ⟨181,_⟩ [.int .u64 k1] (ho3) (by first | rfl | (simp [ek];done)) (R1 ek ?_);try with_reducible exact tt
  refine CallS.pu (hdv) (R0 ?_);try with_reducible exact tt
  refine A10 (fs ew ek) ?_;try with_reducible exact tt
  refine ⟨k1,by omega,by omega,?_,?_⟩
  ·exact Sub1.int (by omega)
  ·rw [hk1,←hWN];exact ⟨Subs.refl _,Subs.refl _⟩
 ·have h2:k=K+1:=by omega
  subst h2
  have h3:¬(K:Int)+1≤K:=by omega
  have h4:((K+1:Nat):Int)=(K:Int)+1:=by omega
  have h5:¬K+1≤K:=by omega
  refine A10 (fs h3 (fs h4 h5)) ?_;try with_reducible exact tt
  exact Subs.refl _
end
section
open Go.RowKit
structure NextJ (next:St→Sp) (G J:Nat) (s:St):Prop where
 uq:Uq (next s)
 nz:nzQ (next s)≠[]
 len:(next s).length≤J
 j6:J≤1000000
 gr:∀p∈next s,Gr G 1 p.2
set_option maxHeartbeats 4000000 in
theorem o_187 {f:FuncId} {next:St→Sp} {T1:TypeId} {x0 x1 x2:D} (ho1:T1<1000000) (P:St→Prop) (l:Sp) (G D B L J CP:Nat) (hu:Uq l) (hok:∀p∈nzQ l,P p.1) (hnz:nzQ l≠[]) (h12:(nzQ l).length≤L) (hl:l.length≤1000000) (hD:0<D) (hB:1≤B) (hgl:∀p∈l,Gr D B p.2) (hG:0<G) (hf:∀s:St,P s→NextJ next G J s∧Eqn Tryz.prog f [.d (.agg (stD s)),.p 0 0] [⟨T1,[.d x0,.d x1,.d x2]⟩] (.mp 1) [⟨T1,[.d x0,.d x1,.d x2]⟩,spO (next s)]) (hsz:size (CP*(D*G))≤100000) (hCP:L*J*B≤CP) (hJ:1≤J) :
  Eqn Tryz.prog o_ay [.mp 0,.fn (.func f) [.p 1 0]] [spO l,⟨T1,[.d x0,.d x1,.d x2]⟩] (.mp 2) [spO l,⟨T1,[.d x0,.d x1,.d x2]⟩,spO (timesQ next l)]:=by
 refine Eqn.gen [0,1,2] o_b0 (by simp) (by simp) (by rfl) (by decide) (by simp) (by simp [spO,ho1]) ?_
 obtain ⟨A,hA⟩:∃A,A=atQ l:=⟨_,rfl⟩
 have hAl:A.length≤L:=by rw [hA,(o_10j l).length_eq];exact h12
 have hAm6:A.length≤1000000:=Nat.le_trans (hA▸o_14j l) hl
 have hA0:1≤A.length:=by
  rw [hA,(o_10j l).length_eq]
  rcases Nat.eq_zero_or_pos (nzQ l).length with e | e
  ·exact absurd (List.eq_nil_of_length_eq_zero e) hnz
  ·exact e
 have hAm:∀p∈A,p∈l:=fun p hp=>(List.mem_filter.1 ((o_10j l).mem_iff.1 (hA▸hp))).1
 have hAz:∀p∈A,p∈nzQ l:=fun p hp=>(o_10j l).mem_iff.1 (hA▸hp)
 have hDG:0<D*G:=Nat.mul_pos hD hG
 have hBC:B≤CP:=by
  refine Nat.le_trans ?_ hCP
  have:1≤L*J:=Nat.mul_pos (by omega) hJ
  exact Nat.le_mul_of_pos_left B this
 have hBD:size (B*D)≤100000:=by
  refine Nat.le_trans (o_o0 ?_) hsz
  exact Nat.mul_le_mul hBC (Nat.le_mul_of_pos_right D hG)
 have hat:=o_141 l hu hnz hl (fun p hp=>(hgl p hp).rs hD hB hBD)
 have hGs:size (1*G)≤100000:=by
  refine Nat.le_trans (o_o0 ?_) hsz
  rw [Nat.one_mul]
  exact Nat.le_trans (Nat.le_mul_of_pos_left G hD) (Nat.le_mul_of_pos_left _ (by omega))
 have hgn:∀s:St,P s→∀p∈next s,Gr G 1 p.2:=fun s hs=>(hf s hs).1.gr
 have hnl:∀s:St,P s→(atQ (next s)).length≤J:=fun s hs=>Nat.le_trans (o_14j _) (hf s hs).1.len
 have hnl6:∀s:St,P s→(atQ (next s)).length≤1000000:=fun s hs=>Nat.le_trans (hnl s hs) (hf s hs).1.j6
 have hout:=o_14g (D:=D) (E:=G) (B:=B) (J:=J) (next:=next) (A:=A) (fun p hp=>hgl p (hAm p hp)) (fun p hp=>⟨hgn p.1 (hok p (hAz p hp)),hnl p.1 (hok p (hAz p hp))⟩)
 have hon:=o_14c next A
 have hoa:outQ next A A.length=timesQ next l:=by rw [hA];exact o_14d next l
 have hADl:=o_102 rcD (fun _=>rfl) A
 have hget:=o_14l A
 rw [←hoa]
 rw [←hA] at hat
 have hcl:∀s:St,P s→Eqn Tryz.prog f [.d (.agg (stD s)),.p 0 0] [⟨T1,[.d x0,.d x1,.d x2]⟩] (.mp 1) [⟨T1,[.d x0,.d x1,.d x2]⟩,spO (next s)]∧Eqn Tryz.prog o_am [.mp 0] [spO (next s)] (.d (.sl (atQ (next s)).length (spD rcD (atQ (next s))))) [spO (next s)]:=fun s hs=>by
  obtain ⟨hn,hh⟩:=hf s hs
  exact ⟨hh,o_141 _ hn.uq hn.nz (Nat.le_trans hn.len hn.j6) fun p hp=>(hgn s hs p hp).rs hG (Nat.le_refl _) hGs⟩
 have hAok:∀p∈A,P p.1:=fun p hp=>hok p (hAz p hp)
 clear hA hoa hnz hf
 refine cc (c':=?z285) ?_ ?_
 case refine_1=>cbv<;>exact rfl
 try simp only [spO] at hat hcl ⊢
 generalize hLl:spD rcD l=LL at *
 refine A00 ?_;try with_reducible exact tt
 refine CallS.g [0] (hat) (R0 ?_);try with_reducible exact tt
 refine AW.loopG (α:=Nat) (fun i=>setS (List.replicate 40 .junk) [(1,.fn (.func f) [.p 1 0]),(5,.mp 2),(12,.d (.sl A.length (spD rcD A))),(13,.d (.int .i64 A.length)),(14,.d (.int .i64 (i:Nat)))]) (fun i=>[some ⟨1000391,LL.map .d⟩,some ⟨T1,[.d x0,.d x1,.d x2]⟩,some ⟨1000391,(spD rcD (outQ next A i)).map .d⟩]) (fun i=>i≤A.length) (fun i=>A.length-i) 0 ?_ (Nat.zero_le _) ?_ ?_ ?_
 ·intro i hi;simp
 ·simp
 ·simp [outQ,spD]
 rintro i hi
 simp
 by_cases hi2:i<A.length
 ·have hi3:(i:Int)<A.length:=by omega
  obtain ⟨s1,s2,s3,q,N1,N2,N3,hp,hN,hg⟩:=hget i hi2
  have hsk:=hAok _ (List.getElem_mem hi2)
  rw [hp] at hsk
  obtain ⟨hof,han⟩:=hcl (s1,s2,s3) hsk
  have hgq:Gr D B q:=by have:=hgl _ (hAm _ (List.getElem_mem hi2));rw [hp] at this;exact this
  have hon1:=hon i hi2
  rw [hp] at hon1
  simp only at hon1
  have hgo:=hout i hi
  have hn2:=hnl (s1,s2,s3) hsk
  have hgn2:=hgn (s1,s2,s3) hsk
  have hJ6:=(hnl6 (s1,s2,s3) hsk)
  obtain ⟨C,hC⟩:∃C,C=atQ (next (s1,s2,s3)):=⟨_,rfl⟩
  have hCm:∀p∈C,Gr G 1 p.2:=fun p hp=>hgn2 p (List.mem_filter.1 ((o_10j _).mem_iff.1 (hC▸hp))).1
  rw [←hC] at hon1 han hn2 hJ6
  have hCl:=o_102 rcD (fun _=>rfl) C
  have hgetC:=o_14l C
  have ewi:IntKind.i64.wrap ((i:Int)+1)=((i+1:Nat):Int):=by rw [w64 (by omega) (by omega)];omega
  simp only [stD] at hof han
  generalize hNL:spD rcD (next (s1,s2,s3))=NL at *
  have hb6:i*6+6≤A.length*6:=by omega
  have hb7:i*6<A.length*6:=by omega
  refine A10 (fs hi2 (fs hi3 (fs hg (fs hADl (fs hb6 hb7))))) ?_;try with_reducible exact tt
  refine CallS.g [1] (hof) (R0 ?_);try with_reducible exact tt
  refine CallS.g [4] (han) (R0 ?_);try with_reducible exact tt
  refine AW.loopG (α:=Nat) (fun j=>setS (List.replicate 40 .junk) [(1,.fn (.func f) [.p 1 0]),(5,.mp 2),(7,.p 3 0),(12,.d (.sl A.length (spD rcD A))),(13,.d (.int .i64 A.length)),(14,.d (.int .i64 (i:Nat))),(22,.d (.sl C.length (spD rcD C))),(23,.d (.int .i64 C.length)),(24,.d (.int .i64 (j:Nat)))]) (fun j=>[some ⟨1000391,LL.map .d⟩,some ⟨T1,[.d x0,.d x1,.d x2]⟩,some ⟨1000391,(spD rcD (innQ q (outQ next A i) (C.take j))).map .d⟩,some ⟨75,[.d (.int .i64 s1),.d (.int .i64 s2),.d (.bool s3),.d N1,.d N2,.d N3]⟩]) (fun j=>j≤C.length) (fun j=>C.length-j) 0 ?_ (Nat.zero_le _) ?_ ?_ ?_
  ·intro j hj;simp
  ·simp
  ·simp [innQ]
  rintro j hj
  simp
  by_cases hj2:j<C.length
  ·have hj3:(j:Int)<C.length:=by omega
   obtain ⟨t1,t2,t3,r,M1,M2,M3,hpc,hM,hgc⟩:=hgetC j hj2
   have hinn:=o_14b q (outQ next A i) C j hj2
   have hgr:=hCm _ (List.getElem_mem hj2)
   rw [hpc] at hinn hgr
   simp only at hinn hgr
   have hqr:=hgq.mul hgr
   have hgi:=o_14f (q:=q) (B:=B) hgo (C.take j) (fun p hp=>by
    have:=hgq.mul (hCm p (List.mem_of_mem_take hp))
    rwa [Nat.mul_one] at this)
   have hget2:=(o_14e hgi (t1,t2,t3)).le (C:=CP) (by
    have e1:(C.take j).length≤j:=by rw [List.length_take];omega
    have e2:=Nat.mul_le_mul_right B e1
    have e3:(i*J+j)*B≤L*J*B:=Nat.mul_le_mul_right _ (by
     have:(i+1)*J≤L*J:=Nat.mul_le_mul_right J (by omega)
     rw [Nat.add_mul,Nat.one_mul] at this
     omega)
    rw [Nat.add_mul] at e3
    omega)
   have hq1:=hgq.rs hD hB hBD
   have hr1:=hgr.rs hG (Nat.le_refl _) hGs
   have hmul:=o_v7 q r hq1 hr1
   have hadd:=o_11v (innQ q (outQ next A i) (C.take j)) (t1,t2,t3) (q*r) (hget2.rs hDG (by omega) hsz) ((hqr.le (C:=CP) (by omega)).rs hDG (by omega) hsz)
   have ewj:IntKind.i64.wrap ((j:Int)+1)=((j+1:Nat):Int):=by rw [w64 (by omega) (by omega)];omega
   have hc6:j*6+6≤C.length*6:=by omega
   have hc7:j*6<C.length*6:=by omega
   rw [←hinn] at hadd
   rw [rD_rc q,rD_rc r,rD_rc (q*r),hN,hM] at hmul
   rw [rD_rc (q*r)] at hadd
   obtain ⟨P1,P2,P3,hP⟩:∃P1 P2 P3,rcD (q*r)=[P1,P2,P3]:=⟨_,_,_,rfl⟩
   rw [hP] at hmul hadd
   simp only [spO,stD] at hadd
   refine A10 (fs hj2 (fs hj3 (fs hgc (fs hCl (fs hc6 hc7))))) ?_;try with_reducible exact tt
   refine CallS.pu (hmul) (R0 ?_);try with_reducible exact tt
   refine CallS.g [2] (hadd) (R0 ?_);try with_reducible exact tt
   refine A10 ewj ?_;try with_reducible exact tt
   refine ⟨j+1,2,2,⟨by omega,by omega,by omega,by omega⟩,by omega,by omega,?_,?_⟩
   ·simp [swT,swH,sw,Ob.sw,V.ren,V.rens]
   ·simp [swT,swH,sw,Ob.sw,V.ren,V.rens]
  ·have h2:j=C.length:=by omega
   subst h2
   rw [List.take_length,←hon1]
   refine A00 ?_;try with_reducible exact tt
   refine A10 ewi ?_;try with_reducible exact tt
   refine ⟨i+1,2,2,⟨by omega,by omega,by omega,by omega⟩,by omega,by omega,?_,?_⟩
   ·simp [swT,swH,sw,Ob.sw,V.ren,V.rens]
   ·simp [swT,swH,sw,Ob.sw,V.ren,V.rens]
 ·have h2:i=A.length:=by omega
  subst h2
  refine A00 ?_;try with_reducible exact tt
set_option maxHeartbeats 4000000 in
theorem o_188 {f:FuncId} {next:St→Sp} (P:St→Prop) (l:Sp) (G D B L J CP:Nat) (hu:Uq l) (hok:∀p∈nzQ l,P p.1) (hnz:nzQ l≠[]) (h12:(nzQ l).length≤L) (hl:l.length≤1000000) (hD:0<D) (hB:1≤B) (hgl:∀p∈l,Gr D B p.2) (hG:0<G) (hf:∀s:St,P s→NextJ next G J s∧Eqn Tryz.prog f [.d (.agg (stD s))] [] (.mp 0) [spO (next s)]) (hsz:size (CP*(D*G))≤100000) (hCP:L*J*B≤CP) (hJ:1≤J) :
  Eqn Tryz.prog o_ay [.mp 0,.fn (.func f) []] [spO l] (.mp 1) [spO l,spO (timesQ next l)]:=by
 refine Eqn.gen [0,1] o_b0 (by simp) (by simp) (by rfl) (by decide) (by simp) (by simp [spO]) ?_
 obtain ⟨A,hA⟩:∃A,A=atQ l:=⟨_,rfl⟩
 have hAl:A.length≤L:=by rw [hA,(o_10j l).length_eq];exact h12
 have hAm6:A.length≤1000000:=Nat.le_trans (hA▸o_14j l) hl
 have hA0:1≤A.length:=by
  rw [hA,(o_10j l).length_eq]
  rcases Nat.eq_zero_or_pos (nzQ l).length with e | e
  ·exact absurd (List.eq_nil_of_length_eq_zero e) hnz
  ·exact e
 have hAm:∀p∈A,p∈l:=fun p hp=>(List.mem_filter.1 ((o_10j l).mem_iff.1 (hA▸hp))).1
 have hAz:∀p∈A,p∈nzQ l:=fun p hp=>(o_10j l).mem_iff.1 (hA▸hp)
 have hDG:0<D*G:=Nat.mul_pos hD hG
 have hBC:B≤CP:=by
  refine Nat.le_trans ?_ hCP
  have:1≤L*J:=Nat.mul_pos (by omega) hJ
  exact Nat.le_mul_of_pos_left B this
 have hBD:size (B*D)≤100000:=by
  refine Nat.le_trans (o_o0 ?_) hsz
  exact Nat.mul_le_mul hBC (Nat.le_mul_of_pos_right D hG)
 have hat:=o_141 l hu hnz hl (fun p hp=>(hgl p hp).rs hD hB hBD)
 have hGs:size (1*G)≤100000:=by
  refine Nat.le_trans (o_o0 ?_) hsz
  rw [Nat.one_mul]
  exact Nat.le_trans (Nat.le_mul_of_pos_left G hD) (Nat.le_mul_of_pos_left _ (by omega))
 have hgn:∀s:St,P s→∀p∈next s,Gr G 1 p.2:=fun s hs=>(hf s hs).1.gr
 have hnl:∀s:St,P s→(atQ (next s)).length≤J:=fun s hs=>Nat.le_trans (o_14j _) (hf s hs).1.len
 have hnl6:∀s:St,P s→(atQ (next s)).length≤1000000:=fun s hs=>Nat.le_trans (hnl s hs) (hf s hs).1.j6
 have hout:=o_14g (D:=D) (E:=G) (B:=B) (J:=J) (next:=next) (A:=A) (fun p hp=>hgl p (hAm p hp)) (fun p hp=>⟨hgn p.1 (hok p (hAz p hp)),hnl p.1 (hok p (hAz p hp))⟩)
 have hon:=o_14c next A
 have hoa:outQ next A A.length=timesQ next l:=by rw [hA];exact o_14d next l
 have hADl:=o_102 rcD (fun _=>rfl) A
 have hget:=o_14l A
 rw [←hoa]
 rw [←hA] at hat
 have hcl:∀s:St,P s→Eqn Tryz.prog f [.d (.agg (stD s))] [] (.mp 0) [spO (next s)]∧Eqn Tryz.prog o_am [.mp 0] [spO (next s)] (.d (.sl (atQ (next s)).length (spD rcD (atQ (next s))))) [spO (next s)]:=fun s hs=>by
  obtain ⟨hn,hh⟩:=hf s hs
  exact ⟨hh,o_141 _ hn.uq hn.nz (Nat.le_trans hn.len hn.j6) fun p hp=>(hgn s hs p hp).rs hG (Nat.le_refl _) hGs⟩
 have hAok:∀p∈A,P p.1:=fun p hp=>hok p (hAz p hp)
 clear hA hoa hnz hf
 refine cc (c':=?z286) ?_ ?_
 case refine_1=>cbv<;>exact rfl
 try simp only [spO] at hat hcl ⊢
 generalize hLl:spD rcD l=LL at *
 refine A00 ?_;try with_reducible exact tt
 refine CallS.g [0] (hat) (R0 ?_);try with_reducible exact tt
 refine AW.loopG (α:=Nat) (fun i=>setS (List.replicate 40 .junk) [(1,.fn (.func f) []),(5,.mp 1),(12,.d (.sl A.length (spD rcD A))),(13,.d (.int .i64 A.length)),(14,.d (.int .i64 (i:Nat)))]) (fun i=>[some ⟨1000391,LL.map .d⟩,some ⟨1000391,(spD rcD (outQ next A i)).map .d⟩]) (fun i=>i≤A.length) (fun i=>A.length-i) 0 ?_ (Nat.zero_le _) ?_ ?_ ?_
 ·intro i hi;simp
 ·simp
 ·simp [outQ,spD]
 rintro i hi
 simp
 by_cases hi2:i<A.length
 ·have hi3:(i:Int)<A.length:=by omega
  obtain ⟨s1,s2,s3,q,N1,N2,N3,hp,hN,hg⟩:=hget i hi2
  have hsk:=hAok _ (List.getElem_mem hi2)
  rw [hp] at hsk
  obtain ⟨hof,han⟩:=hcl (s1,s2,s3) hsk
  have hgq:Gr D B q:=by have:=hgl _ (hAm _ (List.getElem_mem hi2));rw [hp] at this;exact this
  have hon1:=hon i hi2
  rw [hp] at hon1
  simp only at hon1
  have hgo:=hout i hi
  have hn2:=hnl (s1,s2,s3) hsk
  have hgn2:=hgn (s1,s2,s3) hsk
  have hJ6:=(hnl6 (s1,s2,s3) hsk)
  obtain ⟨C,hC⟩:∃C,C=atQ (next (s1,s2,s3)):=⟨_,rfl⟩
  have hCm:∀p∈C,Gr G 1 p.2:=fun p hp=>hgn2 p (List.mem_filter.1 ((o_10j _).mem_iff.1 (hC▸hp))).1
  rw [←hC] at hon1 han hn2 hJ6
  have hCl:=o_102 rcD (fun _=>rfl) C
  have hgetC:=o_14l C
  have ewi:IntKind.i64.wrap ((i:Int)+1)=((i+1:Nat):Int):=by rw [w64 (by omega) (by omega)];omega
  simp only [stD] at hof han
  generalize hNL:spD rcD (next (s1,s2,s3))=NL at *
  have hb6:i*6+6≤A.length*6:=by omega
  have hb7:i*6<A.length*6:=by omega
  refine A10 (fs hi2 (fs hi3 (fs hg (fs hADl (fs hb6 hb7))))) ?_;try with_reducible exact tt
  refine CallS.nX (hof) (R0 ?_);try with_reducible exact tt
  refine CallS.g [3] (han) (R0 ?_);try with_reducible exact tt
  refine AW.loopG (α:=Nat) (fun j=>setS (List.replicate 40 .junk) [(1,.fn (.func f) []),(5,.mp 1),(7,.p 2 0),(12,.d (.sl A.length (spD rcD A))),(13,.d (.int .i64 A.length)),(14,.d (.int .i64 (i:Nat))),(22,.d (.sl C.length (spD rcD C))),(23,.d (.int .i64 C.length)),(24,.d (.int .i64 (j:Nat)))]) (fun j=>[some ⟨1000391,LL.map .d⟩,some ⟨1000391,(spD rcD (innQ q (outQ next A i) (C.take j))).map .d⟩,some ⟨75,[.d (.int .i64 s1),.d (.int .i64 s2),.d (.bool s3),.d N1,.d N2,.d N3]⟩]) (fun j=>j≤C.length) (fun j=>C.length-j) 0 ?_ (Nat.zero_le _) ?_ ?_ ?_
  ·intro j hj;simp
  ·simp
  ·simp [innQ]
  rintro j hj
  simp
  by_cases hj2:j<C.length
  ·have hj3:(j:Int)<C.length:=by omega
   obtain ⟨t1,t2,t3,r,M1,M2,M3,hpc,hM,hgc⟩:=hgetC j hj2
   have hinn:=o_14b q (outQ next A i) C j hj2
   have hgr:=hCm _ (List.getElem_mem hj2)
   rw [hpc] at hinn hgr
   simp only at hinn hgr
   have hqr:=hgq.mul hgr
   have hgi:=o_14f (q:=q) (B:=B) hgo (C.take j) (fun p hp=>by
    have:=hgq.mul (hCm p (List.mem_of_mem_take hp))
    rwa [Nat.mul_one] at this)
   have hget2:=(o_14e hgi (t1,t2,t3)).le (C:=CP) (by
    have e1:(C.take j).length≤j:=by rw [List.length_take];omega
    have e2:=Nat.mul_le_mul_right B e1
    have e3:(i*J+j)*B≤L*J*B:=Nat.mul_le_mul_right _ (by
     have:(i+1)*J≤L*J:=Nat.mul_le_mul_right J (by omega)
     rw [Nat.add_mul,Nat.one_mul] at this
     omega)
    rw [Nat.add_mul] at e3
    omega)
   have hq1:=hgq.rs hD hB hBD
   have hr1:=hgr.rs hG (Nat.le_refl _) hGs
   have hmul:=o_v7 q r hq1 hr1
   have hadd:=o_11v (innQ q (outQ next A i) (C.take j)) (t1,t2,t3) (q*r) (hget2.rs hDG (by omega) hsz) ((hqr.le (C:=CP) (by omega)).rs hDG (by omega) hsz)
   have ewj:IntKind.i64.wrap ((j:Int)+1)=((j+1:Nat):Int):=by rw [w64 (by omega) (by omega)];omega
   have hc6:j*6+6≤C.length*6:=by omega
   have hc7:j*6<C.length*6:=by omega
   rw [←hinn] at hadd
   rw [rD_rc q,rD_rc r,rD_rc (q*r),hN,hM] at hmul
   rw [rD_rc (q*r)] at hadd
   obtain ⟨P1,P2,P3,hP⟩:∃P1 P2 P3,rcD (q*r)=[P1,P2,P3]:=⟨_,_,_,rfl⟩
   rw [hP] at hmul hadd
   simp only [spO,stD] at hadd
   refine A10 (fs hj2 (fs hj3 (fs hgc (fs hCl (fs hc6 hc7))))) ?_;try with_reducible exact tt
   refine CallS.pu (hmul) (R0 ?_);try with_reducible exact tt
   refine CallS.g [1] (hadd) (R0 ?_);try with_reducible exact tt
   refine A10 ewj ?_;try with_reducible exact tt
   refine ⟨j+1,1,1,⟨by omega,by omega⟩,by omega,by omega,?_,?_⟩
   ·simp [swT,swH,sw,Ob.sw,V.ren,V.rens]
   ·simp [swT,swH,sw,Ob.sw,V.ren,V.rens]
  ·have h2:j=C.length:=by omega
   subst h2
   rw [List.take_length,←hon1]
   refine A00 ?_;try with_reducible exact tt
   refine A10 ewi ?_;try with_reducible exact tt
   refine ⟨i+1,1,1,⟨by omega,by omega⟩,by omega,by omega,?_,?_⟩
   ·simp [swT,swH,sw,Ob.sw,V.ren,V.rens]
   ·simp [swT,swH,sw,Ob.sw,V.ren,V.rens]
 ·have h2:i=A.length:=by omega
  subst h2
  refine A00 ?_;try with_reducible exact tt
end
section
open Go.RowKit
theorem o_189 (s:St):∀i,(binI s i).length≤i
 | 0=>Nat.le_refl _
 | i+1=>Nat.le_trans (o_14h _ _ _) (Nat.succ_le_succ (o_189 s i))
theorem o_18a {α:Type} (c:Nat):∀l:List α,(l.map fun _=>c).sum=l.length*c
 | []=>by simp
 | _::l=>by rw [List.map_cons,List.sum_cons,o_18a c l,List.length_cons,Nat.add_mul];omega
theorem o_18b {A B:Nat} {l:Sp} (hu:Uq l) (h:kyQ (okT A B) l):l.length≤(A+1)*((B+1)*2):=by
 have h1:(l.map (·.1)).length≤((List.range (A+1)).flatMap fun a=>(List.range (B+1)).flatMap fun b=>([(a,b,false),(a,b,true)]:List St)).length:=by
  refine List.Nodup.length_le_of_subset hu fun t ht=>?_
  obtain ⟨p,hp,rfl⟩:=List.mem_map.1 ht
  obtain ⟨h1,h2,-⟩:=h p hp
  refine List.mem_flatMap.2 ⟨p.1.1,List.mem_range.2 (by omega),List.mem_flatMap.2 ⟨p.1.2.1,List.mem_range.2 (by omega),?_⟩⟩
  obtain ⟨⟨a,b,f⟩,q⟩:=p
  cases f<;>simp
 rw [List.length_map] at h1
 simpa [List.length_flatMap,o_18a] using h1
theorem SpOK.nextJ {e:Nat} {P:St→Prop} {next:St→Sp} {J:Nat} {s:St} (h:SpOK e P (next s)) (hl:(next s).length≤J) (hJ:J≤1000000):NextJ next (2^e) J s:=⟨h.uq,h.nz,hl,hJ,h.gr⟩
structure ThS (A B:Nat):Prop where
 a1:1≤A
 n:(A+1)*(B+1)≤1000
 b:B≤900
 a:A≤450
 gd:GoodT A B
theorem o_18c {L J e f:Nat} (hL:L≤100000) (hJ:J≤10000) (he:e+f≤90000):size (L*J*(2^e*2^f))≤100000:=by
 have h1:L*J≤100000*10000:=Nat.mul_le_mul hL hJ
 have h2:=o_ut (L*J) (2^e*2^f)
 rw [←Nat.pow_add] at *
 have h3:=o_183 (e+f)
 have h4:size (L*J)≤1:=o_oi (by omega)
 omega
set_option maxHeartbeats 4000000 in
theorem o_18d {A B X:Nat} (h:ThS A B) (hX:X≤900) (hXB:X*(B+1)≤80000):∀(f:Nat) (s:St),s.2.1+f=B→s.1≤X→(s.2.2=true→s.2.1=B)→Eqn Tryz.prog o_e7 [.d (parD 4 A B),.d (.agg (stD s))] [] (.mp 0) [spO (downA A B s)]:=by
 intro f
 induction f with
 | zero =>
  intro s hT hsX hf
  refine Eqn.gen [2] o_e9 (by simp) (by simp) (by rfl) (by decide) (by simp) (by simp [spO]) ?_
  obtain ⟨K,T,F⟩:=s
  simp only at hT hsX hf
  by_cases hk:K≤A
  ·have hk':(K:Int)≤A:=by omega
   have hsu:=o_11z (K,T,F)
   rw [o_17j (s:=(K,T,F)) hk]
   refine cc (c':=?z287) ?_ ?_
   case refine_1=>cbv<;>exact rfl
   try simp only [spO,stD,parD] at hsu ⊢
   generalize spD rcD _=L at *
   refine A10 (fs hk hk') ?_;try with_reducible exact tt
   refine CallS.nX (hsu) (R0 ?_);try with_reducible exact tt
  ·have hk':¬(K:Int)≤A:=by omega
   have hT2:T=B:=by omega
   have hsu:=o_11z (A,T,true)
   rw [o_17k (s:=(K,T,F)) hk (by simp only;omega)]
   subst hT2
   refine cc (c':=?z288) ?_ ?_
   case refine_1=>cbv<;>exact rfl
   try simp only [spO,stD,parD] at hsu ⊢
   generalize spD rcD _=L at *
   refine A10 (fs hk hk') ?_;try with_reducible exact tt
   refine CallS.nX (hsu) (R0 ?_);try with_reducible exact tt
 | succ f ih =>
  intro s hT hsX hf
  by_cases hk:s.1≤A
  ·refine Eqn.gen [2] o_e9 (by simp) (by simp) (by rfl) (by decide) (by simp) (by simp [spO]) ?_
   obtain ⟨K,T,F⟩:=s
   simp only at hT hsX hf hk
   have hk':(K:Int)≤A:=by omega
   have hsu:=o_11z (K,T,F)
   rw [o_17j (s:=(K,T,F)) hk]
   refine cc (c':=?z289) ?_ ?_
   case refine_1=>cbv<;>exact rfl
   try simp only [spO,stD,parD] at hsu ⊢
   generalize spD rcD _=L at *
   refine A10 (fs hk hk') ?_;try with_reducible exact tt
   refine CallS.nX (hsu) (R0 ?_);try with_reducible exact tt
  ·have hTB:s.2.1<B:=by omega
   have hb:=SpOK.bin s
   have hbX:=hb.mono hsX fun _ h=>h
   have hJ:(A+1)*((B+1)*2)≤2000:=by rw [←Nat.mul_assoc];have:=h.n;omega
   have hXf:X+X*f≤90000:=by
    have:X*(f+1)≤X*(B+1):=Nat.mul_le_mul_left _ (by omega)
    rw [Nat.mul_add] at this
    omega
   have hcl:∀t:St,(t.1≤s.1∧t.2=(s.2.1+1,s.2.2))→NextJ (downA A B) (2^(X*f)) ((A+1)*((B+1)*2)) t∧Eqn Tryz.prog o_h2 [.d (.agg (stD t)),.p 0 0] [PO 4 A B] (.mp 1) [PO 4 A B,spO (downA A B t)]:=by
    intro t ht
    have hf0:s.2.2=false:=by
     cases hf2:s.2.2 with
     | false=>rfl
     | true=>have:=hf hf2;omega
    have e1:t.2.1+f=B:=by rw [ht.2];simp only;omega
    have e2:t.2.2=true→t.2.1=B:=by rw [ht.2];simp only [hf0];intro h;cases h
    have hd:=SpOK.down (A:=A) (B:=B) (X:=X) f t e1 (by omega) e2
    refine ⟨hd.nextJ (o_18b hd.uq hd.ky) (by omega),?_⟩
    have hdn:=ih t e1 (by omega) e2
    refine Eqn.gen [0,2] o_h4 (by simp) (by simp) (by rfl) (by decide) (by simp) (by simp [spO,PO]) ?_
    refine cc (c':=?z290) ?_ ?_
    case refine_1=>cbv<;>exact rfl
    try simp only [spO,stD,parD,PO] at hdn ⊢
    generalize spD rcD _=L at *
    refine A00 ?_;try with_reducible exact tt
    refine CallS.nX (hdn) (R0 ?_);try with_reducible exact tt
   have hti:=o_187 (f:=o_h2) (next:=downA A B) (T1:=62) (x0:=.int .i64 4) (x1:=.int .i64 A) (x2:=.int .i64 B) (by decide) (fun t:St=>t.1≤s.1∧t.2=(s.2.1+1,s.2.2)) (binQ s) (2^(X*f)) (2^X) 1 1000 ((A+1)*((B+1)*2)) (1000*((A+1)*((B+1)*2))) hb.uq (fun p hp=>hb.ky p (List.mem_filter.1 hp).1) hb.nz (Nat.le_trans (List.length_filter_le _ _) (Nat.le_trans (o_189 s _) (by omega))) (Nat.le_trans (o_189 s _) (by omega)) (Nat.two_pow_pos _) (Nat.le_refl _) hbX.gr (Nat.two_pow_pos _) hcl (o_18c (by omega) (by omega) hXf) (by omega) (Nat.mul_pos (by omega) (by omega))
   have hbi:=o_186 s (by omega) (by have:=h.b;omega)
   rw [o_17l hk hTB]
   refine Eqn.gen [3] o_e9 (by simp) (by simp) (by rfl) (by decide) (by simp) (by simp [spO]) ?_
   obtain ⟨K,T,F⟩:=s
   simp only at hT hsX hf hk hTB
   have hk':¬(K:Int)≤A:=by omega
   have hTB':¬(T:Int)=B:=by omega
   have hTB2:¬T=B:=by omega
   have hTB3:((T:Int)==(B:Int))=false:=by simp;omega
   refine cc (c':=?z291) ?_ ?_
   case refine_1=>cbv<;>exact rfl
   try simp only [spO,stD,parD] at hbi hti ⊢
   generalize spD rcD (timesQ _ _)=L2 at *
   generalize spD rcD (binQ _)=L at *
   refine A10 (fs hk (fs hk' (fs hTB' (fs hTB2 hTB3)))) ?_;try with_reducible exact tt
   refine CallS.nX (hbi) (R0 ?_);try with_reducible exact tt
   refine CallS.g [2,0] (hti) (R0 ?_);try with_reducible exact tt
end
section
open Go.RowKit
set_option maxHeartbeats 4000000 in
theorem o_18e {A B:Nat} (h:ThS A B) (s:St) (hs:okT A B s):Eqn Tryz.prog o_aj [.d (parD 4 A B),.d (.agg (stD s))] [] (.mp 0) [spO (stepT A B s)]:=by
 obtain ⟨h1,h2,h3⟩:=hs
 have hb9:=h.b
 have ha9:=h.a
 have hX:(A+1)*(B+1)≤80000:=by have:=h.n;omega
 have hhf:=o_182 s.2.1 (by omega)
 have hrs:RS (mkRat 1 (2^s.2.1)) 1000:=RS.mk' (Nat.two_pow_pos _) (Nat.le_trans (o_oi (by decide)) (by omega)) (by have:=o_183 s.2.1;omega)
 have hei:=o_11x (mkRat 1 (2^s.2.1)) (s.1+1,s.2) s hrs (fun e=>by have:=congrArg (fun x:St=>x.1) e;simp at this)
 have he:SpOK B (fun t=>t.1≤A+1∧t.2=s.2) (eitQ (mkRat 1 (2^s.2.1)) (s.1+1,s.2) s):=SpOK.eit ((o_17g _).up h2) ((o_17h _).up h2) ⟨by simp only;omega,rfl⟩ ⟨by omega,rfl⟩
 have hel:(eitQ (mkRat 1 (2^s.2.1)) (s.1+1,s.2) s).length≤2:=Nat.le_trans (o_14h _ _ _) (Nat.succ_le_succ (Nat.le_trans (o_14h _ _ _) (by simp)))
 have hJ:(A+1)*((B+1)*2)≤2000:=by rw [←Nat.mul_assoc];have:=h.n;omega
 have hcl:∀t:St,(t.1≤A+1∧t.2=s.2)→NextJ (downA A B) (2^((A+1)*(B-s.2.1))) ((A+1)*((B+1)*2)) t∧Eqn Tryz.prog o_e4 [.d (.agg (stD t)),.p 0 0] [PO 4 A B] (.mp 1) [PO 4 A B,spO (downA A B t)]:=by
  intro t ht
  have e1:t.2.1+(B-s.2.1)=B:=by rw [ht.2];omega
  have e2:t.2.2=true→t.2.1=B:=by rw [ht.2];exact h3
  have hd:=SpOK.down (A:=A) (B:=B) (X:=A+1) (B-s.2.1) t e1 ht.1 e2
  refine ⟨hd.nextJ (o_18b hd.uq hd.ky) (by omega),?_⟩
  have hdn:=o_18d h (X:=A+1) (by omega) hX (B-s.2.1) t e1 ht.1 e2
  refine Eqn.gen [0,2] o_e6 (by simp) (by simp) (by rfl) (by decide) (by simp) (by simp [spO,PO]) ?_
  refine cc (c':=?z292) ?_ ?_
  case refine_1=>cbv<;>exact rfl
  try simp only [spO,stD,parD,PO] at hdn ⊢
  generalize spD rcD _=L at *
  refine A00 ?_;try with_reducible exact tt
  refine CallS.nX (hdn) (R0 ?_);try with_reducible exact tt
 have hef:B+(A+1)*(B-s.2.1)≤90000:=by
  have:(A+1)*(B-s.2.1)≤(A+1)*(B+1):=Nat.mul_le_mul_left _ (by omega)
  have:=h.n
  omega
 have hti:=o_187 (f:=o_e4) (next:=downA A B) (T1:=62) (x0:=.int .i64 4) (x1:=.int .i64 A) (x2:=.int .i64 B) (by decide) (fun t:St=>t.1≤A+1∧t.2=s.2) (eitQ (mkRat 1 (2^s.2.1)) (s.1+1,s.2) s) (2^((A+1)*(B-s.2.1))) (2^B) 1 2 ((A+1)*((B+1)*2)) (2*((A+1)*((B+1)*2))) he.uq (fun p hp=>he.ky p (List.mem_filter.1 hp).1) he.nz (Nat.le_trans (List.length_filter_le _ _) hel) (Nat.le_trans hel (by omega)) (Nat.two_pow_pos _) (Nat.le_refl _) he.gr (Nat.two_pow_pos _) hcl (o_18c (by omega) (by omega) hef) (by omega) (Nat.mul_pos (by omega) (by omega))
 rw [show timesQ (downA A B) (eitQ (mkRat 1 (2^s.2.1)) (s.1+1,s.2) s)=stepT A B s from rfl] at hti
 refine Eqn.gen [4] o_al (by simp) (by simp) (by rfl) (by decide) (by simp) (by simp [spO]) ?_
 obtain ⟨K,T,F⟩:=s
 simp only at h1 h2 h3 hhf hei hti
 have ew:IntKind.i64.wrap ((K:Int)+1)=((K+1:Nat):Int):=by rw [w64 (by omega) (by omega)];omega
 obtain ⟨H1,H2,H3,hH⟩:∃H1 H2 H3,rcD (mkRat 1 (2^T))=[H1,H2,H3]:=⟨_,_,_,rfl⟩
 refine cc (c':=?z293) ?_ ?_
 case refine_1=>cbv<;>exact rfl
 try simp only [spO,stD,parD,rD_rc] at hei hti hhf ⊢
 generalize spD rcD (stepT _ _ _)=L2 at *
 generalize spD rcD (eitQ _ _ _)=L at *
 rw [hH] at hhf hei
 obtain ⟨K1,hK1⟩:∃K1,K1=K+1:=⟨_,rfl⟩
 rw [←hK1] at hei ew
 refine A10 ew ?_;try with_reducible exact tt
 refine CallS.pu (hhf) (R0 ?_);try with_reducible exact tt
 refine CallS.nX (hei) (R0 ?_);try with_reducible exact tt
 refine CallS.g [3,0] (hti) (R0 ?_);try with_reducible exact tt
def dstT (A B:Nat) (s:St) (n:Nat):Sp:=ofQ (stepT A B) s n
theorem o_18f {A B:Nat} (h:ThS A B):Eqn Tryz.prog o_as [.d (parD 4 A B)] [] (.d (.int .i64 ((A+1)*(B+1):Nat))) []:=by
 refine Eqn.pure o_au Plain.ok ?_
 have h1:=h.a
 have h2:=h.b
 have h3:=h.n
 have e1:IntKind.i64.wrap ((A:Int)+1)=((A+1:Nat):Int):=by rw [w64 (by omega) (by omega)];omega
 have e2:IntKind.i64.wrap ((B:Int)+1)=((B+1:Nat):Int):=by rw [w64 (by omega) (by omega)];omega
 have e3:IntKind.i64.wrap (((A+1:Nat):Int)*((B+1:Nat):Int))=(((A+1)*(B+1):Nat):Int):=by rw [←Int.natCast_mul];exact w64 (by omega) (by omega)
 refine cc (c':=?z294) ?_ ?_
 case refine_1=>cbv<;>exact rfl
 try simp only [parD]
 obtain ⟨A1,hA1⟩:∃A1,A1=A+1:=⟨_,rfl⟩
 obtain ⟨B1,hB1⟩:∃B1,B1=B+1:=⟨_,rfl⟩
 rw [←hA1] at e1 e3 ⊢
 rw [←hB1] at e2 e3 ⊢
 obtain ⟨M,hM⟩:∃M,M=A1*B1:=⟨_,rfl⟩
 rw [←hM] at e3 ⊢
 refine A10 (fs e1 (fs e2 e3)) ?_;try with_reducible exact tt
theorem o_18g {A B:Nat} {s:St} (hs:okT A B s):WellR 4 A B s.1 s.2.1 s.2.2:=.inl ⟨rfl,hs⟩
theorem ThS.good {A B:Nat} (h:ThS A B):GoodR 4 A B:=.inl ⟨rfl,h.gd⟩
theorem o_18h {A B:Nat} (h:ThS A B) {s:St} (hs:okT A B s):(stepT A B s).length≤2000:=by
 have h1:=SpOK.stepT hs
 have h2:=o_18b h1.uq h1.ky
 rw [←Nat.mul_assoc] at h2
 have:=h.n
 omega
set_option maxHeartbeats 4000000 in
theorem o_18i {A B:Nat} (h:ThS A B) (s:St) (hs:okT A B s) (n:Nat) (hn:n≤64) (hcost:(n+1)*((A+1)*(B+1))≤512):Eqn Tryz.prog o_8g [.d (parD 4 A B),.d (.agg (stD s)),.d (.int .i64 n)] [] (.tup [.d (.sl (atQ (dstT A B s n)).length (spD rcD (atQ (dstT A B s n)))),.d (.int .i64 0)]) []:=by
 refine Eqn.pure o_8i Plain.ok ?_
 have hwr:=o_14q h.good s (o_18g hs)
 have hst:=o_18f h
 have hsu:=o_11z s
 have hof:∀i,SpOK (i*(B+(A+1)*B)) (okT A B) (ofQ (stepT A B) s i):=fun i=>SpOK.of (fun t (ht:okT A B t)=>SpOK.stepT ht) hs i
 have hE:(n+1)*(B+(A+1)*B)≤2000:=by
  have h1:B+(A+1)*B≤2*((A+1)*(B+1)):=by
   have h2:(A+1)*(B+1)=(A+1)*B+(A+1):=by rw [Nat.mul_add,Nat.mul_one]
   have h3:B≤(A+1)*B:=Nat.le_mul_of_pos_left B (by omega)
   omega
  have h2:=Nat.mul_le_mul_left (n+1) h1
  have h3:(n+1)*(2*((A+1)*(B+1)))=2*((n+1)*((A+1)*(B+1))):=by rw [Nat.mul_left_comm]
  omega
 have hlen:∀i,(dstT A B s i).length≤2000:=fun i=>by
  have h2:=o_18b (hof i).uq (hof i).ky
  have h3:=Nat.mul_assoc (A+1) (B+1) 2
  have:=h.n
  show (ofQ (stepT A B) s i).length≤2000
  omega
 have hcl:∀t:St,okT A B t→NextJ (stepT A B) (2^(B+(A+1)*B)) 2000 t∧Eqn Tryz.prog o_b1 [.d (.agg (stD t)),.p 0 0] [PO 4 A B] (.mp 1) [PO 4 A B,spO (stepT A B t)]:=by
  intro t ht
  refine ⟨(SpOK.stepT ht).nextJ (o_18h h ht) (by omega),?_⟩
  have hst:=o_18e h t ht
  refine Eqn.gen [0,2] o_b3 (by simp) (by simp) (by rfl) (by decide) (by simp) (by simp [spO,PO]) ?_
  refine cc (c':=?z295) ?_ ?_
  case refine_1=>cbv<;>exact rfl
  try simp only [spO,stD,parD,PO] at hst ⊢
  generalize spD rcD _=L at *
  refine A00 ?_;try with_reducible exact tt
  refine CallS.nX (hst) (R0 ?_);try with_reducible exact tt
 have hti:∀i,i<n→Eqn Tryz.prog o_ay [.mp 0,.fn (.func o_b1) [.p 1 0]] [spO (dstT A B s i),PO 4 A B] (.mp 2) [spO (dstT A B s i),PO 4 A B,spO (dstT A B s (i+1))]:=fun i hi=>by
  have hef:i*(B+(A+1)*B)+(B+(A+1)*B)≤90000:=by
   have h1:(i+1)*(B+(A+1)*B)≤(n+1)*(B+(A+1)*B):=Nat.mul_le_mul_right _ (by omega)
   rw [Nat.add_mul,Nat.one_mul] at h1
   omega
  exact o_187 (f:=o_b1) (next:=stepT A B) (T1:=62) (x0:=.int .i64 4) (x1:=.int .i64 A) (x2:=.int .i64 B) (by decide) (okT A B) (dstT A B s i) (2^(B+(A+1)*B)) (2^(i*(B+(A+1)*B))) 1 2000 2000 (2000*2000) (hof i).uq (fun p hp=>(hof i).ky p (List.mem_filter.1 hp).1) (hof i).nz (Nat.le_trans (List.length_filter_le _ _) (hlen i)) (Nat.le_trans (hlen i) (by omega)) (Nat.two_pow_pos _) (Nat.le_refl _) (hof i).gr (Nat.two_pow_pos _) hcl (o_18c (by omega) (by omega) hef) (by omega) (by omega)
 have hat:Eqn Tryz.prog o_am [.mp 0] [spO (dstT A B s n)] (.d (.sl (atQ (dstT A B s n)).length (spD rcD (atQ (dstT A B s n))))) [spO (dstT A B s n)] :=
  o_141 _ (hof n).uq (hof n).nz (Nat.le_trans (hlen n) (by omega)) ((hof n).rs (by
   have h1:n*(B+(A+1)*B)≤(n+1)*(B+(A+1)*B):=Nat.mul_le_mul_right _ (by omega)
   omega))
 have hd0:dstT A B s 0=[(s,1)]:=rfl
 rw [←hd0] at hsu
 have e1:IntKind.i64.wrap ((n:Int)+1)=((n+1:Nat):Int):=by rw [w64 (by omega) (by omega)];omega
 obtain ⟨W,hW⟩:∃W,W=(A+1)*(B+1):=⟨_,rfl⟩
 rw [←hW] at hst hcost
 have e2:IntKind.i64.wrap (((n+1:Nat):Int)*(W:Int))=(((n+1)*W:Nat):Int):=by rw [←Int.natCast_mul];exact w64 (by omega) (by omega)
 obtain ⟨M,hM⟩:∃M,M=(n+1)*W:=⟨_,rfl⟩
 rw [←hM] at e2 hcost
 obtain ⟨n1,hn1⟩:∃n1,n1=n+1:=⟨_,rfl⟩
 rw [←hn1] at e1 e2
 have g1:¬(n:Int)<0:=by omega
 have g2:¬(64:Int)<n:=by omega
 have g3:¬(512:Int)<M:=by omega
 have g4:¬512<M:=by omega
 have g5:¬64<n:=by omega
 generalize hA:atQ (dstT A B s n)=AA at *
 refine cc (c':=?z296) ?_ ?_
 case refine_1=>cbv<;>exact rfl
 try simp only [stD,parD,spO,PO] at hwr hst hsu hti hat ⊢
 refine A00 ?_;try with_reducible exact tt
 refine CallS.pf 2 3 ⟨64,[.d (.int .i64 s.1),.d (.int .i64 s.2.1),.d (.bool s.2.2)]⟩ [.int .i64 s.1,.int .i64 s.2.1,.bool s.2.2] (hwr) (by first | rfl | (simp [g1,g2,g5];done)) (R1 (fs g1 (fs g2 g5)) ?_);try with_reducible exact tt
 refine A10 (fs g1 (fs g2 (fs g5 e1))) ?_;try with_reducible exact tt
 refine CallS.pu (hst) (R1 (fs e2 (fs g3 g4)) ?_);try with_reducible exact tt
 refine A10 (fs e2 (fs g3 g4)) ?_;try with_reducible exact tt
 refine CallS.nX (hsu) (R0 ?_);try with_reducible exact tt
 refine AW.loopG (α:=Nat) (fun i=>setS (List.replicate 43 .junk) [(3,.p 0 0),(9,.mp 3),(34,.d (.int .i64 n)),(35,.d (.int .i64 (i:Nat)))]) (fun i=>[some ⟨62,[.d (.int .i64 (4:Nat)),.d (.int .i64 A),.d (.int .i64 B)]⟩,none,none,some ⟨1000391,(spD rcD (dstT A B s i)).map .d⟩]) (fun i=>i≤n) (fun i=>n-i) 0 ?_ (Nat.zero_le _) ?_ ?_ ?_
 ·intro i hi;simp
 ·simp
 ·simp
 rintro i hi
 simp
 by_cases hi2:i<n
 ·have hi3:(i:Int)<n:=by omega
  have ew:IntKind.i64.wrap ((i:Int)+1)=((i+1:Nat):Int):=by rw [w64 (by omega) (by omega)];omega
  have ht:=hti i (by omega)
  refine A10 (fs hi2 hi3) ?_;try with_reducible exact tt
  refine CallS.g [3,0] (ht) (R1 ew ?_);try with_reducible exact tt
  refine A10 ew ?_;try with_reducible exact tt
  refine ⟨i+1,3,4,by omega,by omega,by omega,?_,?_⟩
  ·simp [swT,swH,sw,Ob.sw,V.ren,V.rens]
  ·simp [swT,swH,sw,Ob.sw,V.ren,V.rens]
 ·have h2:i=n:=by omega
  subst h2
  refine A00 ?_;try with_reducible exact tt
  refine CallS.g [3] (hat) (R0 ?_);try with_reducible exact tt
  done
end
section
open Go.RowKit
end
section
open Go.RowKit
theorem o_18j:Eqn Tryz.prog o_87 [] [] (.d (.bool true)) []:=by
 refine Eqn.pure o_89 Plain.ok ?_
 have hG:GoodS 1 1 2:=⟨.inl ⟨rfl,by omega,by omega⟩,by omega,by omega⟩
 have hof:=o_164 hG (by omega) (0,0,false) (.inr ⟨by omega,rfl,by simp,by simp⟩) ⟨Nat.zero_le _,rfl,by simp⟩ 2 (by omega)
 rw [dst2] at hof
 have hsp:spD rcD [(((1,0,false):St),hf2),((2,0,false),hf2)]=[.int .i64 1,.int .i64 0,.bool false,natW 1,.bool false,natW 1,.int .i64 2,.int .i64 0,.bool false,natW 1,.bool false,natW 1]:=by rfl
 rw [hsp] at hof
 have ht:=o_zu hf2 ⟨by decide +kernel,by decide +kernel⟩
 have hr:rD hf2 = .agg [natW 1,.bool false,natW 1]:=by rfl
 rw [hr] at ht
 have hs:(txtQ hf2).toList=[49,47,50]:=by kernel_rfl
 refine cc (c':=?z297) ?_ ?_
 case refine_1=>cbv<;>exact rfl
 try simp only [parD,stD] at hof ⊢
 generalize natW 1=N1 at *
 generalize txtQ hf2=SS at *
 simp at hof
 refine A00 ?_;try with_reducible exact tt
 refine CallS.pu (hof) (R0 ?_);try with_reducible exact tt
 refine CallS.pu (ht) (R1 hs ?_);try with_reducible exact tt
 refine CallS.pu (ht) (R1 hs ?_);try with_reducible exact tt
end
section
open Go.RowKit
end
section
open Go.RowKit
end
section
open Go.RowKit
end
section
open Go.RowKit
end
section
open Go.RowKit
theorem o_18k (n:Nat):size (2^n)≤n/64+1:=by
 refine o_7b (o_n8 _) ?_
 rw [o_n6,show 18446744073709551616=2^64 from rfl,←Nat.pow_mul]
 exact Nat.pow_lt_pow_right (by decide) (by omega)
theorem o_18l {A B:Nat} (h1:1≤A) (h2:A≤8) (h3:B≤3):ThS A B where
 a1:=h1
 n:=Nat.le_trans (Nat.mul_le_mul (show A+1≤9 by omega) (show B+1≤4 by omega)) (by decide)
 b:=by omega
 a:=by omega
 gd:=⟨h1,by omega,by omega⟩
theorem o_18m {A B:Nat} {s:St}:vlQ 4 A B s=((s.1*2^s.2.1:Nat):Rat):=by
 unfold vlQ valR
 rw [if_pos rfl]
theorem o_18n {A B:Nat} (h1:1≤A) (h2:A≤8) (h3:B≤3) {L:Sp} {e:Nat} (hL:SpOK e (okT A B) L) (he:e≤10000):LsOK 4 A B (atQ L) (2^e) 1 1 1000:=by
 have hl:=o_18b hL.uq hL.ky
 have h4:(A+1)*((B+1)*2)≤9*(4*2):=Nat.mul_le_mul (by omega) (Nat.mul_le_mul_right _ (by omega))
 refine ⟨Nat.le_trans (o_14j _) (by omega),hL.at.one,Nat.two_pow_pos _,by decide,by decide,by decide,by have:=o_18k e;omega,Nat.le_trans (o_oi (by decide)) (by decide),Nat.le_trans (o_oi (by decide)) (by decide),Nat.le_trans (o_oi (by decide)) (by decide),fun p hp=>o_18g (hL.at.ky p hp),hL.at.gr,fun p hp=>?_⟩
 obtain ⟨a1,a2,-⟩:=hL.at.ky p hp
 rw [o_18m]
 refine o_181 ?_
 have:p.1.1*2^p.1.2.1≤8*2^3:=Nat.mul_le_mul (by omega) (Nat.pow_le_pow_right (by decide) (by omega))
 omega
end
section
open Go.RowKit
def smQ (K A B:Nat) (s:St) (n:Nat):Sp:=if K=4 then dstT A B s n else dstQ K A B s n
structure SmOK (K A B:Nat) (Q:Sp):Prop where
 uq:Uq Q
 one:exQ (fun _=>1) Q=1
 nn:∀p∈Q,0≤p.2
 ls:∃D C E V,LsOK K A B (atQ Q) D C E V
theorem o_18o {l:Sp} (h:∀p∈l,0≤p.2):∀p∈atQ l,0<p.2:=fun p hp=>by
 have h1:=List.mem_filter.1 ((o_10j l).mem_iff.1 hp)
 have h2:p.2≠0:=by simpa using h1.2
 exact Classical.byContradiction fun hn=>h2 (Rat.le_antisymm (Rat.not_lt.1 hn) (h p h1.1))
theorem LsOK.rs {k a w:Nat} {L:Sp} {D C E V:Nat} (h:LsOK k a w L D C E V):∀p∈L,RS p.2 90000:=fun p hp=>(h.gr p hp).rs h.dp h.cp (by
 have:=o_ut C D
 have:=h.sd;have:=h.sc;omega)
theorem LsOK.rsum {k a w:Nat} {L:Sp} {D C E V:Nat} (h:LsOK k a w L D C E V):∀i,i≤L.length→RS (psum L i) 100000:=fun i hi=>by
 refine ((o_16d h.gr i hi).le (C:=1000*C) (Nat.mul_le_mul_right _ (Nat.le_trans hi h.len))).rs h.dp (Nat.mul_pos (by decide) h.cp) ?_
 have h1:=o_ut (1000*C) D
 have h2:=o_ut 1000 C
 have h3:size 1000≤1:=o_oi (by decide)
 have:=h.sd;have:=h.sc;omega
theorem sm_ok {K A B:Nat} (hsr:SmallR K A B) {Y T:Nat} {F:Bool} (hw:WellR K A B Y T F) (n:Nat) (hn:n≤7):SmOK K A B (smQ K A B (Y,T,F) n)∧Eqn Tryz.prog o_8g [.d (parD K A B),.d (.agg [.int .i64 Y,.int .i64 T,.bool F]),.d (.int .i64 n)] [] (.tup [.d (.sl (atQ (smQ K A B (Y,T,F) n)).length (spD rcD (atQ (smQ K A B (Y,T,F) n)))),.d (.int .i64 0)]) []:=by
 rcases hsr with ⟨rfl,h1,h2,h3⟩ | ⟨hk,hG⟩
 ·have hs:okT A B (Y,T,F):=by
   rcases hw with ⟨-,h⟩ | ⟨h,-⟩
   ·exact h
   ·exact absurd rfl h
  have hst:∀i,SpOK (i*(B+(A+1)*B)) (okT A B) (dstT A B (Y,T,F) i):=fun i=>SpOK.of (fun t (ht:okT A B t)=>SpOK.stepT ht) hs i
  have he:n*(B+(A+1)*B)≤7*(3+9*3):=Nat.mul_le_mul hn (Nat.add_le_add h3 (Nat.mul_le_mul (by omega) h3))
  have hc:(n+1)*((A+1)*(B+1))≤8*(9*4):=Nat.mul_le_mul (by omega) (Nat.mul_le_mul (by omega) (by omega))
  unfold smQ
  rw [if_pos rfl]
  exact ⟨⟨(hst n).uq,(hst n).one,(hst n).nn,_,_,_,_,o_18n h1 h2 h3 (hst n) (by omega)⟩,o_18i (o_18l h1 h2 h3) (Y,T,F) hs n (by omega) (by omega)⟩
 ·obtain ⟨hT0,hYt,hFt⟩:T=0∧Y≤2^B-1∧(F=true→Y=2^B-1):=by
   rcases hw with ⟨h,-⟩ | ⟨-,h⟩
   ·exact absurd h hk
   ·exact h
  have hok:okQ (topC B) (Y,T,F):=⟨hYt,hT0,hFt⟩
  obtain ⟨c0,c1⟩:=o_14z hG
  unfold smQ
  rw [if_neg hk]
  exact ⟨⟨of_uq _ _ _,o_110 _ _,fun p hp=>(ok_of c0 c1 hok n p hp).2,o_180 hG hok n (by omega)⟩,o_164 hG hG.2.2 (Y,T,F) hw hok n (by omega)⟩
theorem o_18p {K A B:Nat} (hsr:SmallR K A B) {Q:Sp} (h:SmOK K A B Q):Eqn Tryz.prog o_8m [.d (parD K A B),.d (.sl (atQ Q).length (spD rcD (atQ Q)))] [] (.d (.bool true)) []:=by
 obtain ⟨D,C,E,V,hl⟩:=h.ls
 exact o_160 (o_wv hsr) _ (Nat.le_trans hl.len (by decide)) hl.well (o_18o h.nn) (fun i hi=>o_16b h.uq i hi) (fun p hp=>(hl.rs p hp).le (by omega)) hl.rsum (by rw [o_16c];exact hl.one)
def LawOK (X:Wm) (op:Nat) (Q:Sp):Prop:=∀s,(getN s X:Rat)≤2048*getQ Q s∧2048*getQ Q s≤((getN s X+op:Nat):Rat)
theorem o_18q (n:Nat):mkRat n 2048=(n:Rat)/2048:=by
 rw [Rat.mkRat_eq_div];rfl
theorem o_18r {K A B:Nat} {Q:Sp} (h:SmOK K A B Q) (X:Wm) (op:Nat) (hop:op≤2^40) (hX:X.length≤1000000) (hg:∀s,getN s X≤2^40) (hpos:∀p∈X,0<getN p.1 X) (hl:LawOK X op Q) :
  Eqn Tryz.prog o_94 [.d (.sl (atQ Q).length (spD rcD (atQ Q))),.mp 0,.d (.int .i64 op),.d (.int .i64 11)] [wtO X] (.d (.bool true)) [wtO X]:=by
 obtain ⟨D,C,E,V,hls⟩:=h.ls
 have hga:∀s,getQ (atQ Q) s=getQ Q s:=fun s=>o_10n (l:=Q) (h:=h.uq) s
 refine o_16w _ (Nat.le_trans hls.len (by decide)) X op hop hX hg hls.rs (fun p hp=>?_) fun p hp=>?_
 ·rw [hga]
  intro e
  have h1:=(hl p.1).1
  rw [e,Rat.mul_zero] at h1
  have h2:=hpos p hp
  have h3:(0:Rat)<(getN p.1 X:Rat):=by
   have:((0:Nat):Rat)<(getN p.1 X:Rat):=Rat.natCast_lt_natCast.2 h2
   simpa using this
  exact absurd h1 (Rat.not_le.2 h3)
 ·have e:p.2=getQ Q p.1:=by
   rw [←hga]
   exact (o_17s (uq_at h.uq) p hp).symm
  obtain ⟨h1,h2⟩:=hl p.1
  rw [←e] at h1 h2
  rw [o_18q,o_18q]
  constructor
  ·grind
  ·grind
end
section
open Go.RowKit
theorem o_18s (s:St) (v:Nat):∀(l:Wm) (p:St×Nat),p∈setN l s v→p.1=s∨∃q∈l,q.1=p.1
 | [],p,h=>by
  simp only [setN,List.mem_singleton] at h
  exact .inl (by rw [h])
 | q::l,p,h=>by
  unfold setN at h
  split at h
  ·rename_i e
   rcases List.mem_cons.1 h with h | h
   ·left;rw [h]
   ·right;exact ⟨p,List.mem_cons_of_mem _ h,rfl⟩
  ·rcases List.mem_cons.1 h with h | h
   ·right;exact ⟨q,List.mem_cons_self,by rw [h]⟩
   ·rcases o_18s s v l p h with h | ⟨r,h1,h2⟩
    ·exact .inl h
    ·exact .inr ⟨r,List.mem_cons_of_mem _ h1,h2⟩
theorem o_18t (s:St) (v:Nat):∀l:Wm,(setN l s v).length≤l.length+1
 | []=>by simp [setN]
 | q::l=>by
  unfold setN
  split
  ·simp
  ·have:=o_18t s v l
   simp;omega
def posW (l:Wm):Prop:=∀p∈l,0<getN p.1 l
theorem o_18u {l:Wm} (h:posW l) (s:St) {w:Nat} (hw:0<w):posW (addN l s w):=fun p hp=>by
 simp only [addN,o_12r]
 split
 ·omega
 ·rename_i e
  rcases o_18s s _ l p hp with h1 | ⟨q,h1,h2⟩
  ·exact absurd h1 e
  ·rw [←h2];exact h q h1
theorem o_18v {ask:List Bool→St×Int}:∀(d:Nat) (pre:List Bool) (X:Wm×Nat),posW X.1→posW (walkN ask d pre X).1∧(walkN ask d pre X).1.length≤X.1.length+2^d
 | 0,pre,(L,op),h=>by
  unfold walkN
  split
  ·exact ⟨o_18u h _ (by decide),o_18t _ _ _⟩
  ·exact ⟨h,by simp⟩
 | d+1,pre,(L,op),h=>by
  have hp:=Nat.two_pow_pos d
  have e2:2^(d+1)=2^d+2^d:=by rw [Nat.pow_succ];omega
  unfold walkN
  split
  ·obtain ⟨h1,h2⟩:=o_18v (ask:=ask) d (pre++[false]) (L,op) h
   obtain ⟨h3,h4⟩:=o_18v (ask:=ask) d (pre++[true]) _ h1
   refine ⟨h3,?_⟩
   simp only at h2 ⊢
   omega
  ·split
   ·refine ⟨o_18u h _ (by omega),?_⟩
    have:=o_18t (ask pre).1 (getN (ask pre).1 L+2^(d+1)) L
    simp only [addN]
    omega
   ·exact ⟨h,by simp only;omega⟩
theorem o_18w (s t:St) (l:Wm) (w:Nat):(getN s (addN l t w):Rat)=getN s l+(w:Rat)*(if s=t then 1 else 0):=by
 simp only [addN,o_12r]
 split
 ·rename_i e;subst e;rw [Rat.natCast_add,Rat.mul_one]
 ·rw [Rat.mul_zero,Rat.add_zero]
theorem o_18x {ask:List Bool→St×Int} {D:List Bool→Rat} {s:St} (h01:∀pre,0≤D pre∧D pre≤1) (h8:∀pre,(ask pre).2=8→2*D pre=D (pre++[false])+D (pre++[true])) (h0:∀pre,(ask pre).2=0→D pre=if s=(ask pre).1 then 1 else 0):∀(d:Nat) (pre:List Bool) (X:Wm×Nat),
  (getN s (walkN ask d pre X).1:Rat)≤getN s X.1+((2^d:Nat):Rat)*D pre∧(getN s X.1:Rat)+X.2+((2^d:Nat):Rat)*D pre≤getN s (walkN ask d pre X).1+(walkN ask d pre X).2
 | 0,pre,(L,op)=>by
  obtain ⟨d0,d1⟩:=h01 pre
  have e:((2^0:Nat):Rat)=1:=rfl
  rw [e,Rat.one_mul]
  unfold walkN
  split
  ·rename_i h
   simp only
   rw [o_18w,←h0 pre h]
   have e1:((1:Nat):Rat)=1:=rfl
   rw [e1]
   constructor<;>grind
  ·simp only
   rw [Rat.natCast_add]
   have e1:((1:Nat):Rat)=1:=rfl
   rw [e1]
   constructor<;>grind
 | d+1,pre,(L,op)=>by
  obtain ⟨d0,d1⟩:=h01 pre
  have e2:((2^(d+1):Nat):Rat)=((2^d:Nat):Rat)*2:=by rw [Nat.pow_succ,Rat.natCast_mul];rfl
  have hp:(0:Rat)≤((2^(d+1):Nat):Rat):=Rat.natCast_nonneg
  have m0:=Rat.mul_nonneg hp d0
  have m1:((2^(d+1):Nat):Rat)*D pre≤((2^(d+1):Nat):Rat):=by
   have:=Rat.mul_le_mul_of_nonneg_left d1 hp
   rwa [Rat.mul_one] at this
  unfold walkN
  split
  ·rename_i h
   obtain ⟨a1,a2⟩:=o_18x h01 h8 h0 d (pre++[false]) (L,op)
   obtain ⟨b1,b2⟩:=o_18x h01 h8 h0 d (pre++[true]) (walkN ask d (pre++[false]) (L,op))
   have e8:=h8 pre h
   rw [e2]
   have e9:((2^d:Nat):Rat)*2*D pre=((2^d:Nat):Rat)*D (pre++[false])+((2^d:Nat):Rat)*D (pre++[true]):=by
    rw [Rat.mul_assoc,e8,Rat.mul_add]
   rw [e9]
   simp only at a1 a2 b1 b2 ⊢
   constructor<;>grind
  ·split
   ·rename_i h
    simp only
    rw [o_18w,←h0 pre h]
    constructor<;>grind
   ·simp only
    rw [Rat.natCast_add]
    constructor<;>grind
theorem o_18y {ask:List Bool→St×Int} {Q:Sp} (D:St→List Bool→Rat) (h01:∀s pre,0≤D s pre∧D s pre≤1) (h8:∀s pre,(ask pre).2=8→2*D s pre=D s (pre++[false])+D s (pre++[true])) (h0:∀s pre,(ask pre).2=0→D s pre=if s=(ask pre).1 then 1 else 0) (hQ:∀s,D s []=getQ Q s):LawOK (walkN ask 11 [] ([],0)).1 (walkN ask 11 [] ([],0)).2 Q:=fun s=>by
 obtain ⟨h1,h2⟩:=o_18x (h01 s) (h8 s) (h0 s) 11 [] ([],0)
 have e:((2^11:Nat):Rat)=2048:=rfl
 have e0:((getN s ([],0).1:Nat):Rat)=0:=rfl
 have e1:(((([]:Wm),0).2:Nat):Rat)=0:=rfl
 rw [e,hQ,e0] at h1 h2
 rw [e1] at h2
 rw [Rat.natCast_add]
 constructor<;>grind
theorem sm_fits_walk {K A B:Nat} {Q:Sp} (h:SmOK K A B Q) {ask:List Bool→St×Int} (hl:LawOK (walkN ask 11 [] ([],0)).1 (walkN ask 11 [] ([],0)).2 Q) :
  Eqn Tryz.prog o_94 [.d (.sl (atQ Q).length (spD rcD (atQ Q))),.mp 0,.d (.int .i64 (walkN ask 11 [] ([],0)).2),.d (.int .i64 11)] [wtO (walkN ask 11 [] ([],0)).1] (.d (.bool true)) [wtO (walkN ask 11 [] ([],0)).1]:=by
 obtain ⟨h1,h2⟩:=o_12s (ask:=ask) 11 [] ([],0)
 obtain ⟨h3,h4⟩:=o_18v (ask:=ask) 11 [] ([],0) (fun p hp=>nomatch hp)
 exact o_18r h _ _ (Nat.le_trans h1 (by decide)) (Nat.le_trans h4 (by decide)) (fun s=>Nat.le_trans (h2 s) (show 0+2^11≤2^40 by decide)) h3 hl
end
section
theorem o_18z {k a b:Nat} (hG:GoodS k a b) {y:Nat} {f:Bool} (hok:okQ (topC b) (y,0,f)) (n:Nat):LawOK (walkN (askA k a b n (y,0,f)) 11 [] ([],0)).1 (walkN (askA k a b n (y,0,f)) 11 [] ([],0)).2 (dstQ k a b (y,0,f) n):=by
 have hb:topC b≤15:=by
  have h3:2^b≤2^4:=Nat.pow_le_pow_right (by decide) hG.2.2
  unfold topC;omega
 have hk4:k≠4:=by have:=hG.1;omega
 obtain ⟨c0,c1⟩:=o_14z hG
 have hrun:=o_11q (st:=fun cs=>stOf cs k a) (sp:=stP k a) (top:=topC b) (fun x hx=>o_128 hG (by omega)) n y f hok.1
 have hE:=fun g=>o_11p (sp:=stP k a) (top:=topC b) (c:=chP k a) (fun x hx g=>stP_E k a x g) g n y f hok.1 hok.2.2
 have key:∀pre,match (addP (stP k a) (topC b) n y f).O pre with
   | some (r,c)=>askA k a b n (y,0,f) pre=((r.1,0,r.2),0)
   | none=>(askA k a b n (y,0,f) pre).2=8:=fun pre=>by
  have h:=hrun pre 0 (Nat.zero_le _)
  rw [List.drop_zero] at h
  cases ho:(addP (stP k a) (topC b) n y f).O pre with
  | none =>
   rw [ho] at h
   simp only [askA,addRM,if_neg hk4]
   exact h
  | some rc =>
   obtain ⟨r,c⟩:=rc
   rw [ho] at h
   simp only [addH,Prod.mk.injEq] at h
   obtain ⟨h1,h2,h3,h4⟩:=h
   simp only [askA,addRM,if_neg hk4]
   show (if (addL (stOf pre k a) (topC b) n y f 0 false).1=0 then _ else _,_)=_
   rw [if_pos h2]
   have e1:=congrArg Prod.fst h1
   have e2:=congrArg Prod.snd h1
   simp only at e1 e2
   exact Prod.ext (Prod.ext e1 (Prod.ext rfl e2)) h2
 refine o_18y (fun s pre=>(addP (stP k a) (topC b) n y f).D pre fun r=>if (r.1,0,r.2)=s then 1 else 0) (fun s pre=>CP.d3 _ _ _ fun r=>by split<;>decide) (fun s pre h=>?_) (fun s pre h=>?_) fun s=>?_
 ·refine CP.d2 _ _ _ ?_
  have hk:=key pre
  cases ho:(addP (stP k a) (topC b) n y f).O pre with
  | none=>rfl
  | some rc =>
   rw [ho] at hk
   obtain ⟨r,c⟩:=rc
   simp only at hk
   rw [hk] at h
   cases h
 ·have hk:=key pre
  cases ho:(addP (stP k a) (topC b) n y f).O pre with
  | none=>rw [ho] at hk;simp only at hk;rw [hk] at h;cases h
  | some rc =>
   rw [ho] at hk
   obtain ⟨r,c⟩:=rc
   simp only at hk
   rw [CP.d1 _ _ _ _ _ ho,hk]
   simp only [eq_comm]
 ·rw [show (addP (stP k a) (topC b) n y f).D [] _=_ from hE _]
  unfold dstQ
  rw [o_10m s _ (of_uq _ _ _)]
  refine o_16s fun p hp=>?_
  have h2:=(ok_of c0 c1 hok n p hp).1.2.1
  obtain ⟨⟨p1,p2,p3⟩,q⟩:=p
  simp only at h2
  subst h2
  rfl
end
section
theorem o_190:Runs flipR CP.coin:=fun cs p hp=>by
 cases hx:cs.drop p with
 | nil=>rw [o_112 (o_114 hp hx)];rfl
 | cons b x =>
  obtain ⟨h1,h2,h3⟩:=o_113 hx
  exact h1
def bnP:Nat→Nat→CP Nat
 | 0,c=>.pure c
 | n+1,c=>CP.coin.bind fun b=>bnP n (if b then c+1 else c)
def binH (n c:Nat) (cs:List Bool) (p:Nat) (d:Bool):Nat×Int×Nat×Bool:=((binM cs n c p d).2.1,(binM cs n c p d).1,(binM cs n c p d).2.2.1,(binM cs n c p d).2.2.2)
theorem o_191:∀n c,Runs (binH n c) (bnP n c)
 | 0,c=>fun cs p hp=>rfl
 | n+1,c=>by
  refine o_11i o_190 (G:=fun b=>binH n (if b then c+1 else c)) (fun b=>o_191 n _) (fun cs p hp he=>?_) fun cs p hp he=>?_
  ·replace he:flipE cs p false=0:=he
   unfold binH
   rw [binM,if_pos he]
   rfl
  ·replace he:flipE cs p false=8:=he
   unfold binH
   rw [binM,if_neg (by rw [he];decide)]
   exact he
theorem bnP_E (g:Nat→Rat):∀n c,(bnP n c).E g=bex n fun k=>g (c+k)
 | 0,c=>rfl
 | n+1,c=>by
  show (CP.coin.bind fun b=>bnP n (if b then c+1 else c)).E g=_
  rw [CP.bind_E]
  show ((bnP n c).E g+(bnP n (c+1)).E g)/2=_
  rw [bnP_E g n c,bnP_E g n (c+1)]
  show _=mkRat 1 2*(bex n (fun k=>g (c+k))+bex n fun k=>g (c+(k+1)))
  have e:(fun k=>g (c+(k+1)))=fun k=>g (c+1+k):=funext fun k=>by rw [show c+(k+1)=c+1+k by omega]
  have h2:mkRat 1 2=1/2:=by rw [Rat.mkRat_eq_div];rfl
  rw [e,h2]
  generalize (bex n fun k=>g (c+k))=u
  generalize (bex n fun k=>g (c+1+k))=v
  grind
end
section
def thP:Nat→Nat→Nat→CP (Nat×Nat)
 | 0,y,t=>.pure (y,t)
 | n+1,y,t=>(bnP y 0).bind fun z=>thP n z (t+1)
def thinH (f:Bool) (n y t:Nat) (cs:List Bool) (p:Nat) (d:Bool):(Nat×Nat)×Int×Nat×Bool:=(((thinM cs f n y t p d).y,(thinM cs f n y t p d).t),(thinM cs f n y t p d).e,(thinM cs f n y t p d).p,(thinM cs f n y t p d).d)
theorem o_192 (f:Bool):∀n y t,Runs (thinH f n y t) (thP n y t)
 | 0,y,t=>fun cs p hp=>rfl
 | n+1,y,t=>by
  refine o_11i (o_191 y 0) (G:=fun z=>thinH f n z (t+1)) (fun z=>o_192 f n z (t+1)) (fun cs p hp he=>?_) fun cs p hp he=>?_
  ·replace he:(binM cs y 0 p false).1=0:=he
   unfold thinH
   rw [thinM,if_pos he]
   rfl
  ·replace he:(binM cs y 0 p false).1=8:=he
   unfold thinH
   rw [thinM,if_neg (by rw [he];decide)]
   exact he
end
section
def dnP (A B:Nat):Nat→Nat→Nat→Bool→CP St
 | 0,y,t,f=>.pure (y,t,f)
 | k+1,y,t,f=>if A<y then (if t=B then .pure (A,t,true) else (thP 1 y t).bind fun z=>dnP A B k z.1 z.2 f) else .pure (y,t,f)
def dnH (A B k y t:Nat) (f:Bool) (cs:List Bool) (p:Nat) (d:Bool):St×Int×Nat×Bool:=(((downM cs A B k y t f p d).y,(downM cs A B k y t f p d).t,(downM cs A B k y t f p d).f),(downM cs A B k y t f p d).e,(downM cs A B k y t f p d).p,(downM cs A B k y t f p d).d)
theorem o_193 (A B:Nat):∀k y t f,Runs (dnH A B k y t f) (dnP A B k y t f)
 | 0,y,t,f=>fun cs p hp=>rfl
 | k+1,y,t,f=>by
  unfold dnP
  by_cases h1:A<y
  ·rw [if_pos h1]
   by_cases h2:t=B
   ·rw [if_pos h2]
    intro cs p hp
    show dnH A B (k+1) y t f cs p false=((A,t,true),0,p+0,false)
    unfold dnH downM
    rw [if_pos h1,if_pos h2]
    rfl
   ·rw [if_neg h2]
    refine o_11i (o_192 f 1 y t) (G:=fun z=>dnH A B k z.1 z.2 f) (fun z=>o_193 A B k z.1 z.2 f) (fun cs p hp he=>?_) fun cs p hp he=>?_
    ·replace he:(thinM cs f 1 y t p false).e=0:=he
     unfold dnH
     rw [downM,if_pos h1,if_neg h2,if_pos he]
     rfl
    ·replace he:(thinM cs f 1 y t p false).e=8:=he
     unfold dnH
     rw [downM,if_pos h1,if_neg h2,if_neg (by rw [he];decide)]
     exact he
  ·rw [if_neg h1]
   intro cs p hp
   show dnH A B (k+1) y t f cs p false=((y,t,f),0,p+0,false)
   unfold dnH downM
   rw [if_neg h1]
   rfl
theorem o_194 (cs:List Bool):∀(k p:Nat) (d:Bool),(halfR cs k p d).1=true→(halfR cs k p d).2.1=0
 | 0,p,d,h=>rfl
 | k+1,p,d,h=>by
  unfold halfR at h ⊢
  split
  ·rename_i h1
   rw [if_pos h1] at h
   exact o_194 cs k _ _ h
  ·rename_i h1
   rw [if_neg h1] at h
   cases h
def onP (A B y t:Nat) (f:Bool):CP St:=(halfP t).bind fun b=>if b then dnP A B (B-t+1) (y+1) t f else .pure (y,t,f)
def onH (A B y t:Nat) (f:Bool) (cs:List Bool) (p:Nat) (d:Bool):St×Int×Nat×Bool:=(((oneM cs A B y t f p d).y,(oneM cs A B y t f p d).t,(oneM cs A B y t f p d).f),(oneM cs A B y t f p d).e,(oneM cs A B y t f p d).p,(oneM cs A B y t f p d).d)
theorem o_195 (A B y t:Nat) (f:Bool):Runs (onH A B y t f) (onP A B y t f):=by
 refine o_11i (o_115 t) (G:=fun b cs p d=>if b then dnH A B (B-t+1) (y+1) t f cs p d else ((y,t,f),0,p,d)) (fun b=>?_) (fun cs p hp he=>?_) fun cs p hp he=>?_
 ·cases b with
  | false=>exact o_11j (y,t,f)
  | true=>exact o_193 A B (B-t+1) (y+1) t f
 ·unfold onH oneM
  cases hb:(halfR cs t p false).1 with
  | true=>rfl
  | false=>simp only [Bool.false_eq_true,if_false];rw [he]
 ·unfold onH oneM
  cases hb:(halfR cs t p false).1 with
  | true=>rw [o_194 _ _ _ _ hb] at he;cases he
  | false=>simp only [Bool.false_eq_true,if_false];exact he
def tnP (A B:Nat):Nat→Nat→Nat→Bool→CP St
 | 0,y,t,f=>.pure (y,t,f)
 | n+1,y,t,f=>(onP A B y t f).bind fun s=>tnP A B n s.1 s.2.1 s.2.2
def tnH (A B n y t:Nat) (f:Bool) (cs:List Bool) (p:Nat) (d:Bool):St×Int×Nat×Bool:=(((addTM cs A B n y t f p d).y,(addTM cs A B n y t f p d).t,(addTM cs A B n y t f p d).f),(addTM cs A B n y t f p d).e,(addTM cs A B n y t f p d).p,(addTM cs A B n y t f p d).d)
theorem o_196 (A B:Nat):∀n y t f,Runs (tnH A B n y t f) (tnP A B n y t f)
 | 0,y,t,f=>fun cs p hp=>rfl
 | n+1,y,t,f=>by
  refine o_11i (o_195 A B y t f) (G:=fun s=>tnH A B n s.1 s.2.1 s.2.2) (fun s=>o_196 A B n s.1 s.2.1 s.2.2) (fun cs p hp he=>?_) fun cs p hp he=>?_
  ·replace he:(oneM cs A B y t f p false).e=0:=he
   unfold tnH
   rw [addTM,if_pos he]
   rfl
  ·replace he:(oneM cs A B y t f p false).e=8:=he
   unfold tnH
   rw [addTM,if_neg (by rw [he];decide)]
   exact he
end
section
theorem o_197 (s:St) (g:St→Rat):exQ g (binQ s)=bex s.1 fun k=>g (k,s.2.1+1,s.2.2):=by
 unfold binQ
 rw [o_177 s g (s.1+1) (Nat.le_refl _),o_174]
theorem th1_E (g:Nat×Nat→Rat) (y t:Nat):(thP 1 y t).E g=bex y fun k=>g (k,t+1):=by
 show ((bnP y 0).bind fun z=>thP 0 z (t+1)).E g=_
 rw [CP.bind_E]
 show (bnP y 0).E (fun a=>g (a,t+1))=_
 rw [bnP_E]
 simp only [Nat.zero_add]
theorem dn_E (A B:Nat) (g:St→Rat):∀(k y t:Nat) (f:Bool),t≤B→B<t+k→(dnP A B k y t f).E g=exQ g (downA A B (y,t,f))
 | 0,y,t,f,h1,h2=>by omega
 | k+1,y,t,f,h1,h2=>by
  unfold dnP
  by_cases hy:A<y
  ·rw [if_pos hy]
   by_cases ht:t=B
   ·rw [if_pos ht,o_17k (show ¬((y,t,f):St).1≤A by simp;omega) ht]
    show g (A,t,true)=_
    simp only [exQ];grind
   ·rw [if_neg ht,CP.bind_E,o_17l (show ¬((y,t,f):St).1≤A by simp;omega) (show ((y,t,f):St).2.1<B by simp;omega),o_10r,o_197]
    rw [th1_E]
    congr 1
    funext z
    exact dn_E A B g k z (t+1) f (by omega) (by omega)
  ·rw [if_neg hy,o_17j (show ((y,t,f):St).1≤A by simp;omega)]
   show g (y,t,f)=_
   simp only [exQ];grind
theorem on_E (A B:Nat) (g:St→Rat) (y t:Nat) (f:Bool) (ht:t≤B):(onP A B y t f).E g=mkRat 1 (2^t)*exQ g (downA A B (y+1,t,f))+(1-mkRat 1 (2^t))*g (y,t,f):=by
 unfold onP
 rw [CP.bind_E,o_116]
 simp only [Bool.false_eq_true,if_false,if_true]
 rw [dn_E A B g _ _ _ _ ht (by omega)]
 rfl
theorem o_198 {A B:Nat} (g:St→Rat) {y t:Nat} {f:Bool} (h:okT A B (y,t,f)):(onP A B y t f).E g=exQ g (stepT A B (y,t,f)):=by
 obtain ⟨h1,h2,h3⟩:=h
 rw [on_E A B g y t f h2]
 unfold stepT
 rw [o_10r,(o_10s _ _ _ _).2,o_17j (s:=(y,t,f)) h1]
 simp only [exQ]
 grind
theorem tn_E {A B:Nat} (g:St→Rat):∀(n y t:Nat) (f:Bool),okT A B (y,t,f)→(tnP A B n y t f).E g=exQ g (ofQ (stepT A B) (y,t,f) n)
 | 0,y,t,f,h=>by
  show g (y,t,f)=_
  simp only [ofQ,exQ];grind
 | n+1,y,t,f,h=>by
  rw [o_11n]
  show ((onP A B y t f).bind fun s=>tnP A B n s.1 s.2.1 s.2.2).E g=_
  rw [CP.bind_E,o_198 _ h]
  exact o_17f fun p hp=>tn_E g n p.1.1 p.1.2.1 p.1.2.2 ((SpOK.stepT h).ky p hp)
end
section
theorem o_199 {A B:Nat} {s0:St} (h:okT A B s0) (n:Nat):LawOK (walkN (askA 4 A B n s0) 11 [] ([],0)).1 (walkN (askA 4 A B n s0) 11 [] ([],0)).2 (dstT A B s0 n):=by
 obtain ⟨y,t,f⟩:=s0
 have hrun:=o_196 A B n y t f
 have huq:Uq (dstT A B (y,t,f) n):=(SpOK.of (fun t (ht:okT A B t)=>SpOK.stepT ht) h n).uq
 have key:∀pre,match (tnP A B n y t f).O pre with
   | some (r,c)=>askA 4 A B n (y,t,f) pre=(r,0)
   | none=>(askA 4 A B n (y,t,f) pre).2=8:=fun pre=>by
  have h:=hrun pre 0 (Nat.zero_le _)
  rw [List.drop_zero] at h
  cases ho:(tnP A B n y t f).O pre with
  | none =>
   rw [ho] at h
   simp only [askA,addRM,if_true]
   exact h
  | some rc =>
   obtain ⟨r,c⟩:=rc
   rw [ho] at h
   simp only [tnH,Prod.mk.injEq] at h
   obtain ⟨h1,h2,h3,h4⟩:=h
   simp only [askA,addRM,if_true]
   rw [if_pos h2]
   exact Prod.ext h1 h2
 refine o_18y (fun s pre=>(tnP A B n y t f).D pre fun r=>if r=s then 1 else 0) (fun s pre=>CP.d3 _ _ _ fun r=>by split<;>decide) (fun s pre h=>?_) (fun s pre h=>?_) fun s=>?_
 ·refine CP.d2 _ _ _ ?_
  have hk:=key pre
  cases ho:(tnP A B n y t f).O pre with
  | none=>rfl
  | some rc =>
   rw [ho] at hk
   simp only at hk
   rw [hk] at h
   cases h
 ·have hk:=key pre
  cases ho:(tnP A B n y t f).O pre with
  | none=>rw [ho] at hk;simp only at hk;rw [hk] at h;cases h
  | some rc =>
   rw [ho] at hk
   obtain ⟨r,c⟩:=rc
   simp only at hk
   rw [CP.d1 _ _ _ _ _ ho,hk]
   simp only [eq_comm]
 ·rw [show (tnP A B n y t f).D [] _=_ from tn_E _ n y t f h,o_10m s _ huq]
  rfl
end
section
open Go.RowKit
theorem o_19a {K A B:Nat} (hsr:SmallR K A B) {Y T:Nat} {F:Bool} (hw:WellR K A B Y T F) (n:Nat):LawOK (walkN (askA K A B n (Y,T,F)) 11 [] ([],0)).1 (walkN (askA K A B n (Y,T,F)) 11 [] ([],0)).2 (smQ K A B (Y,T,F) n):=by
 unfold smQ
 rcases hsr with ⟨rfl,h1,h2,h3⟩ | ⟨hk,hG⟩
 ·rw [if_pos rfl]
  rcases hw with ⟨-,h⟩ | ⟨h,-⟩
  ·exact o_199 (s0:=(Y,T,F)) h n
  ·exact absurd rfl h
 ·rw [if_neg hk]
  rcases hw with ⟨h,-⟩ | ⟨-,rfl,h2,h3⟩
  ·exact absurd h hk
  ·exact o_18z hG ⟨h2,rfl,h3⟩ n
set_option maxHeartbeats 8000000 in
theorem o_19b (k a b y t:Int) (f:Bool) (n:Int):Eqn Tryz.prog o_7s [.d (parD k a b),.d (.agg [.int .i64 y,.int .i64 t,.bool f]),.d (.int .i64 n)] [] (.d (.bool true)) []:=by
 refine Eqn.pure o_7u Plain.ok ?_
 obtain ⟨K,A,B,hsr,hsm⟩:=o_x0 k a b
 obtain ⟨Y,T,F,hw,hs1⟩:=hsm y t f
 obtain ⟨m,hm,hm3,-⟩:=o_s9 n 3 (by omega)
 replace hm:bits BinOp.and IntKind.i64 n 3=m:=hm
 have hwn:=o_ww K A B
 have hst:=o_wx Y T F
 obtain ⟨hS,hof⟩:=sm_ok hsr hw m (by omega)
 have hwt:=o_147 (o_148 (o_wv hsr) (Y,T,F) hw m (by omega))
 have hord:=o_18p hsr hS
 have hfit:=sm_fits_walk hS (o_19a hsr hw m)
 generalize walkN (askA K A B m (Y,T,F)) 11 [] ([],0)=X at *
 generalize atQ (smQ K A B (Y,T,F) m)=L at *
 refine cc (c':=?z300) ?_ ?_
 case refine_1=>cbv<;>exact rfl
 try simp only [parD,tsD,stD,wtO] at hs1 hwn hst hof hwt hord hfit ⊢
 refine A01 o_18j ?_;try with_reducible exact tt
 refine CallS.pu (hs1) (R0 ?_);try with_reducible exact tt
 refine CallS.pu (hwn) (R0 ?_);try with_reducible exact tt
 refine CallS.pu (hst) (R0 ?_);try with_reducible exact tt
 refine A10 hm ?_;try with_reducible exact tt
 simp only [hm]
 refine CallS.g [3,4,2] (hwt) (R1 hm ?_);try with_reducible exact tt
 refine A00 ?_;try with_reducible exact tt
 refine CallS.pu (hof) (R0 ?_);try with_reducible exact tt
 refine CallS.pu (hord) (R0 ?_);try with_reducible exact tt
 refine CallS.g [5] (hfit) (R0 ?_);try with_reducible exact tt
end
section
open Go.RowKit

theorem ptp_walk {W:World} (ht:Tabs (memW W)) {k a b y t n:Int} {f:Bool}:Calls Tryz.prog o_7s #[.agg #[.int .i64 k,.int .i64 a,.int .i64 b],.agg #[.int .i64 y,.int .i64 t,.bool f],.int .i64 n] W (fun e W'=>e = .returned (.bool true)∧Same W W') :=
 o_x2 o_7u (o_19b k a b y t f n) (V.reps_cons.2 ⟨o_x3 (by simp [Value.oneCell']) (by simp [D.reps_cons,D.rep_int]),V.reps_cons.2 ⟨o_x3 (by simp [Value.oneCell']) (by simp [D.reps_cons,D.rep_int,D.rep_bool]),V.reps_cons.2 ⟨V.rep_int.2 rfl,V.reps_nil.2 rfl⟩⟩⟩) ht
end
section
open Go.RowKit
section
variable {mg:St→St→Sp}
theorem o_19c (g:St→Rat) (x:St×Rat) (B:Sp):∀(j:Nat) (out:Sp),j≤B.length→Uq out→Uq (inG mg x B out j)∧exQ g (inG mg x B out j)=exQ g out+x.2*exQ (fun t=>exQ g (mg x.1 t)) (B.take j)
 | 0,out,_,h=>⟨h,by simp only [inG,List.take_zero,List.foldl_nil,exQ];grind⟩
 | j+1,out,hj,h=>by
  obtain ⟨h1,h2⟩:=o_19c g x B j out (by omega) h
  obtain ⟨h3,h4⟩:=o_10o g (x.2*B[j].2) (atQ (mg x.1 B[j].1)) (inG mg x B out j) h1
  rw [o_16g mg x B out j (by omega)]
  refine ⟨h3,?_⟩
  rw [h4,h2,ex_at,List.take_add_one,List.getElem?_eq_getElem (by omega:j<B.length),Option.toList,o_10d]
  simp only [exQ];grind
theorem o_19d (g:St→Rat) (A B:Sp):∀i,i≤A.length→Uq (outG mg A B i)∧exQ g (outG mg A B i)=exQ (fun s=>exQ (fun t=>exQ g (mg s t)) B) (A.take i)
 | 0,_=>by simp [outG,Uq,exQ]
 | i+1,hi=>by
  obtain ⟨h1,h2⟩:=o_19d g A B i (by omega)
  rw [o_16i mg A B i hi]
  obtain ⟨h3,h4⟩:=o_19c (mg:=mg) g A[i] B B.length (outG mg A B i) (Nat.le_refl _) h1
  refine ⟨h3,?_⟩
  rw [h4,h2,List.take_length,List.take_add_one,List.getElem?_eq_getElem (by omega:i<A.length),Option.toList,o_10d]
  simp only [exQ];grind
theorem o_19e (A B:Sp):Uq (mrgG mg A B):=by rw [←o_16j];exact (o_19d (fun _=>0) A B _ (Nat.le_refl _)).1
theorem o_19f (g:St→Rat) (A B:Sp):exQ g (mrgG mg A B)=exQ (fun s=>exQ (fun t=>exQ g (mg s t)) B) A:=by
 rw [←o_16j,(o_19d g A B _ (Nat.le_refl _)).2,List.take_length]
theorem o_19g {A B:Sp} (hA:exQ (fun _=>1) A=1) (hB:exQ (fun _=>1) B=1) (hm:∀x∈A,∀y∈B,exQ (fun _=>1) (mg x.1 y.1)=1):exQ (fun _=>1) (mrgG mg A B)=1:=by
 rw [o_19f,o_17f (h:=fun _=>1) fun x hx=>?_]
 ·exact hA
 ·rw [o_17f (h:=fun _=>1) fun y hy=>hm x hx y hy];exact hB
theorem o_19h {R:St→Prop} {A B:Sp} (hm:∀x∈A,∀y∈B,kyQ R (mg x.1 y.1)):kyQ R (mrgG mg A B):=by
 have h1:∀x∈A,∀(j:Nat) (out:Sp),j≤B.length→kyQ R out→kyQ R (inG mg x B out j):=by
  intro x hx j
  induction j with
  | zero=>intro out _ h p hp;exact h p (by simpa [inG] using hp)
  | succ j ih =>
   intro out hj h
   rw [o_16g mg x B out j (by omega)]
   exact o_14s (ih out (by omega) h) (ky_at (hm x hx _ (List.getElem_mem _)))
 have h2:∀i,i≤A.length→kyQ R (outG mg A B i):=by
  intro i
  induction i with
  | zero=>intro _ p hp;simp [outG] at hp
  | succ i ih =>
   intro hi
   rw [o_16i mg A B i hi]
   exact h1 _ (List.getElem_mem _) _ _ (Nat.le_refl _) (ih (by omega))
 rw [←o_16j]
 exact h2 _ (Nat.le_refl _)
end
section
variable {top:Nat} {c V:Nat→Rat} {M N:Rat}
end
end
end Go.Proofs.YtabnkmpkcfjkmaaGreatDoor.Am
