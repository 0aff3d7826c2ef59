/- Parts of the proof: Reg3, Reg4, Reg5, ChainG, ChainH, AmLaw, Reg6, SortL, AmFm, Val2, Val3, TxtM, Txt1, TxtN, Txt2, Txt3, Txt4, Txt5, DecM, PackM, Pack1, Pack2, Carr1, Carr2, Carr3, Carr6, Cms1, Dec1, Dec2, Dec3, Dec4, Dec5, HashM, Dec6, RtA, RtB, DecT, RtC, DecP, PmfM, PmfN, WtP, WtQ, WtS, WtT, WtU, Pmf1, Pmf4, WtV, WtM, Pmf2, Pmf3, Pmf5, Pmf6, Pmf7, SortK, SortM, SortO, Pmf8, WtR, WtA, WtB, PmfG, Pmf9, PmfA, PmfB, PmfK, PmfC, PmfI, PmfJ, PmfO, PmfP, PmfQ, PmfU, PmfR, PmfS, PmfT. -/
import Derived.Test.YtidfejfgmlakpaaGreatPd
set_option linter.unusedVariables false
set_option linter.unusedSimpArgs false
set_option maxRecDepth 100000
namespace Go.Proofs.YtidfejfgmlakpaaGreat.Am
section
open Go.RowKit
def stR (R:TR) (y t:Nat) (f:Bool):D:=if R.e=0 then tsD R.y R.t R.f else tsD y t f

theorem o_uh (cs:List Bool) (k a b y t:Nat) (f:Bool) (n:Nat) (m:Int) (hmx:max 0 m=(n:Int)) (p:Nat) (d:Bool) (h:GoodR k a b) (hw:WellR k a b y t f) (hn:m≤1048576) (hp:p≤cs.length) (hc:cs.length≤4000000) (R:TR) (hR:R=addRM cs k a b n y t f p d) :
  Eqn Tryz.prog o_87 [.d (parD k a b),.p 0 0,.d (tsD y t f),.d (.int .i64 m)] [tapeO cs p d] (.tup [.d (stR R y t f),.d (.int .i64 R.e)]) [tapeO cs R.p R.d]:=by
 refine Eqn.obj1 o_89 Plain.ok ⟨rfl,fun _=>rfl⟩ ?_
 have hwr:=o_uf h hw
 rcases hw with ⟨rfl,hw⟩ | ⟨hk,rfl,hy,hf⟩
 ·replace h:GoodT a b:=by
   rcases h with ⟨-,h⟩ | ⟨hk,-⟩
   ·exact h
   ·exact absurd rfl hk
  rw [addRM,if_pos rfl] at hR
  have h1:=o_u6 4 a b
  have h2:=o_u8 y t f
  have h3:=o_tu cs a b y t f m p d h hw (by omega) hp hc R (by rw [hR];congr 1;omega)
  clear hR
  obtain ⟨e,ry,rt,rf,rp,rd⟩:=R
  have h4:∀y t f,_:=o_u9
  refine cc (c':=?z156) ?_ ?_
  case refine_1=>cbv<;>exact rfl
  try simp only [parD,tpD,tsD,stR,show ((4:Nat):Int)=4 from rfl] at hwr h1 h2 h3 ⊢
  obtain ⟨Y,T,F,hS⟩:∃(Y T:Nat) (F:Bool),(if e=0 then D.agg [.int .i64 ry,.int .i64 rt,.bool rf] else D.agg [.int .i64 y,.int .i64 t,.bool f])=D.agg [.int .i64 Y,.int .i64 T,.bool F]:=by
   split
   ·exact ⟨ry,rt,rf,rfl⟩
   ·exact ⟨y,t,f,rfl⟩
  rw [hS] at h3 ⊢
  refine G0B ?_;try with_reducible exact tt
  refine CallS.pf 4 3 ⟨35,_⟩ [.int .i64 y,.int .i64 t,.bool f] (hwr) (by first | rfl | (simp [-Bool.exists_bool];done)) (R0B ?_);try with_reducible exact tt
  refine AW.cond rfl (fun h=>?_) (fun h=>?_)
  ·simp at h
  refine G0B ?_;try with_reducible exact tt
  refine AW.cond rfl (fun h=>?_) (fun h=>?_)
  ·refine G0B ?_;try with_reducible exact tt
   refine CallS.pu (h1) (R0B ?_);try with_reducible exact tt
   refine CallS.pu (h2) (R0B ?_);try with_reducible exact tt
   refine CallS.o1 0 (h3) (R0B ?_);try with_reducible exact tt
   refine CallS.pu (h4 Y T F) (R0B ?_);try with_reducible exact tt
  ·simp at h
 ·rcases h with ⟨rfl,-⟩ | ⟨-,h⟩
  ·exact absurd rfl hk
  rw [addRM,if_neg hk] at hR
  have h1:=o_u7 k a b
  have h2:=o_ua y 0 f
  have h3:=o_u0 h cs hc y hy f n m hmx hn p d hp _ rfl
  have hk':¬(k:Int)=4:=by omega
  generalize addL (stOf cs k a) (2^b-1) n y f p d=S at *
  subst hR
  obtain ⟨e,sx,sf,sp,sd⟩:=S
  have h4:∀y f,_:=o_ub
  refine cc (c':=?z157) ?_ ?_
  case refine_1=>cbv<;>exact rfl
  try simp only [parD,tsD,stR] at hwr h1 h2 h3 ⊢
  obtain ⟨Y,F,hS1,hS2,hS⟩:∃(Y:Nat) (F:Bool),(if e=0 then sx else y)=Y∧(if e=0 then sf else f)=F∧(if e=0 then D.agg [.int .i64 sx,.int .i64 (0:Nat),.bool sf] else D.agg [.int .i64 y,.int .i64 (0:Nat),.bool f])=D.agg [.int .i64 Y,.int .i64 0,.bool F]:=by
   by_cases he:e=0
   ·simp only [if_pos he];exact ⟨sx,sf,rfl,rfl,rfl⟩
   ·simp only [if_neg he];exact ⟨y,f,rfl,rfl,rfl⟩
  rw [hS1,hS2] at h3
  rw [hS]
  simp only [Int.natCast_zero,show ((0:Nat):Int)=0 by rfl] at hwr
  refine G0B ?_;try with_reducible exact tt
  refine CallS.pf 4 3 ⟨35,_⟩ [.int .i64 y,.int .i64 0,.bool f] (hwr) (by first | rfl | (simp [-Bool.exists_bool];done)) (R0B ?_);try with_reducible exact tt
  refine AW.cond rfl (fun h=>?_) (fun h=>?_)
  ·simp at h
  refine G1B (fs hk hk') ?_;try with_reducible exact tt
  refine AW.cond rfl (fun h=>?_) (fun h=>?_)
  ·simp [hk'] at h
  ·refine G0B ?_;try with_reducible exact tt
   refine CallS.pu (h1) (R0B ?_);try with_reducible exact tt
   refine CallS.pu (h2) (R0B ?_);try with_reducible exact tt
   refine CallS.o1 0 (h3) (R0B ?_);try with_reducible exact tt
   refine CallS.pu (h4 Y F) (R0B ?_);try with_reducible exact tt


theorem o_ui (cs:List Bool) (k a b y t:Nat) (f:Bool) (n:Nat) (p:Nat) (d:Bool) (h:GoodR k a b) (hw:WellR k a b y t f) (hn:n≤1048576) (hp:p≤cs.length) (hc:cs.length≤4000000) (R:TR) (hR:R=addRM cs k a b n y t f p d) :
  Eqn Tryz.prog o_87 [.d (parD k a b),.p 0 0,.d (tsD y t f),.d (.int .i64 n)] [tapeO cs p d] (.tup [.d (stR R y t f),.d (.int .i64 R.e)]) [tapeO cs R.p R.d] :=
 o_uh cs k a b y t f n n (by omega) p d h hw (by omega) hp hc R hR

theorem o_uj (cs:List Bool) (k a b y t:Nat) (f:Bool) (z u:Nat) (g:Bool) (p:Nat) (d:Bool) (h:GoodR k a b) (hw:WellR k a b y t f) (hv:WellR k a b z u g) (hp:p≤cs.length) (hc:cs.length≤4000000) (R:TR) (hR:R=mergeRM cs k a b y t f z u g p d) :
  Eqn Tryz.prog o_8a [.d (parD k a b),.p 0 0,.d (tsD y t f),.d (tsD z u g)] [tapeO cs p d] (.tup [.d (stR R y t f),.d (.int .i64 R.e)]) [tapeO cs R.p R.d]:=by
 refine Eqn.obj1 o_8c Plain.ok ⟨rfl,fun _=>rfl⟩ ?_
 have hwr:=o_ug h hw hv
 rcases hw with ⟨rfl,hw⟩ | ⟨hk,rfl,hy,hf⟩
 ·replace h:GoodT a b:=by
   rcases h with ⟨-,h⟩ | ⟨hk,-⟩
   ·exact h
   ·exact absurd rfl hk
  replace hv:WellT a b z u g:=by
   rcases hv with ⟨-,h⟩ | ⟨hk,-⟩
   ·exact h
   ·exact absurd rfl hk
  rw [mergeRM,if_pos rfl] at hR
  have h1:=o_u6 4 a b
  have h2:=o_u8 y t f
  have h2':=o_u8 z u g
  have h3:=o_tv cs a b y t f z u g p d h hw hv hp hc R hR
  clear hR
  obtain ⟨e,ry,rt,rf,rp,rd⟩:=R
  have h4:∀y t f,_:=o_u9
  refine cc (c':=?z158) ?_ ?_
  case refine_1=>cbv<;>exact rfl
  try simp only [parD,tpD,tsD,stR,show ((4:Nat):Int)=4 from rfl] at hwr h1 h2 h2' h3 ⊢
  obtain ⟨Y,T,F,hS⟩:∃(Y T:Nat) (F:Bool),(if e=0 then D.agg [.int .i64 ry,.int .i64 rt,.bool rf] else D.agg [.int .i64 y,.int .i64 t,.bool f])=D.agg [.int .i64 Y,.int .i64 T,.bool F]:=by
   split
   ·exact ⟨ry,rt,rf,rfl⟩
   ·exact ⟨y,t,f,rfl⟩
  rw [hS] at h3 ⊢
  refine G0B ?_;try with_reducible exact tt
  refine CallS.pf 5 3 ⟨35,_⟩ [.int .i64 y,.int .i64 t,.bool f,.int .i64 z,.int .i64 u,.bool g] (hwr) (by first | rfl | (simp [-Bool.exists_bool];done)) (R0B ?_);try with_reducible exact tt
  refine AW.cond rfl (fun h=>?_) (fun h=>?_)
  ·simp at h
  refine G0B ?_;try with_reducible exact tt
  refine AW.cond rfl (fun h=>?_) (fun h=>?_)
  ·refine G0B ?_;try with_reducible exact tt
   refine CallS.pu (h1) (R0B ?_);try with_reducible exact tt
   refine CallS.pu (h2) (R0B ?_);try with_reducible exact tt
   refine CallS.pu (h2') (R0B ?_);try with_reducible exact tt
   refine CallS.o1 0 (h3) (R0B ?_);try with_reducible exact tt
   refine CallS.pu (h4 Y T F) (R0B ?_);try with_reducible exact tt
  ·simp at h
 ·rcases h with ⟨rfl,-⟩ | ⟨-,h⟩
  ·exact absurd rfl hk
  rcases hv with ⟨rfl,-⟩ | ⟨-,rfl,hz,hg⟩
  ·exact absurd rfl hk
  rw [mergeRM,if_neg hk] at hR
  have h1:=o_u7 k a b
  have h2:=o_ua y 0 f
  have h2':=o_ua z 0 g
  have h3:=o_u1 h cs hc y hy f z hz g p d hp _ rfl
  have hk':¬(k:Int)=4:=by omega
  generalize mergeL (agOf cs k a) (2^b-1) z 0 y f p d=S at *
  subst hR
  obtain ⟨e,sx,sf,sp,sd⟩:=S
  have h4:∀y f,_:=o_ub
  refine cc (c':=?z159) ?_ ?_
  case refine_1=>cbv<;>exact rfl
  try simp only [parD,tsD,stR] at hwr h1 h2 h2' h3 ⊢
  obtain ⟨Y,F,hS1,hS2,hS⟩:∃(Y:Nat) (F:Bool),(if e=0 then sx else y)=Y∧(if e=0 then sf || g else f)=F∧(if e=0 then D.agg [.int .i64 sx,.int .i64 (0:Nat),.bool (sf || g)] else D.agg [.int .i64 y,.int .i64 (0:Nat),.bool f])=D.agg [.int .i64 Y,.int .i64 0,.bool F]:=by
   by_cases he:e=0
   ·simp only [if_pos he];exact ⟨sx,_,rfl,rfl,rfl⟩
   ·simp only [if_neg he];exact ⟨y,f,rfl,rfl,rfl⟩
  rw [hS1,hS2] at h3
  rw [hS]
  simp only [Int.natCast_zero,show ((0:Nat):Int)=0 by rfl] at hwr
  refine G0B ?_;try with_reducible exact tt
  refine CallS.pf 5 3 ⟨35,_⟩ [.int .i64 y,.int .i64 0,.bool f,.int .i64 z,.int .i64 0,.bool g] (hwr) (by first | rfl | (simp [-Bool.exists_bool];done)) (R0B ?_);try with_reducible exact tt
  refine AW.cond rfl (fun h=>?_) (fun h=>?_)
  ·simp at h
  refine G1B (fs hk hk') ?_;try with_reducible exact tt
  refine AW.cond rfl (fun h=>?_) (fun h=>?_)
  ·simp [hk'] at h
  ·refine G0B ?_;try with_reducible exact tt
   refine CallS.pu (h1) (R0B ?_);try with_reducible exact tt
   refine CallS.pu (h2) (R0B ?_);try with_reducible exact tt
   refine CallS.pu (h2') (R0B ?_);try with_reducible exact tt
   refine CallS.o1 0 (h3) (R0B ?_);try with_reducible exact tt
   refine CallS.pu (h4 Y F) (R0B ?_);try with_reducible exact tt
end
section
open Go.RowKit
end
section
open Go.RowKit
def SmallR (k a b:Nat):Prop:=k=4∧1≤a∧a≤8∧b≤3∨k≠4∧GoodS k a b
theorem o_uk {k a b:Nat} (h:SmallR k a b):GoodR k a b:=by
 rcases h with ⟨rfl,h1,h2,h3⟩ | ⟨hk,h⟩
 ·exact .inl ⟨rfl,h1,by omega,by omega⟩
 ·exact .inr ⟨hk,o_tw h⟩

theorem o_ul (k a b:Int):Eqn Tryz.prog o_7y [.d (parD k a b)] [] (.d (parD k a b)) []:=by
 refine Eqn.pure o_80 Plain.ok ?_
 refine cc (c':=?z161) ?_ ?_
 case refine_1=>cbv<;>exact rfl
 try simp only [parD]
 refine G0 ?_;try with_reducible exact tt
theorem o_um (y:Int) (m n:Nat) (hm:m≤1000000) (hn:n≤1000000):∃(N Y:Nat),bits BinOp.and IntKind.i64 y (m:Int)=N∧IntKind.i64.wrap ((n:Int)+1)=(n:Int)+1∧(N:Int).tmod ((n:Int)+1)=Y∧Y≤n:=by
 obtain ⟨N,h1,h2,h3⟩:=o_q0 y m (by omega)
 have hY:N%(n+1)≤n:=by have:=Nat.mod_lt N (show 0<n+1 by omega);omega
 refine ⟨N,N%(n+1),h1,w64 (by omega) (by omega),?_,hY⟩
 rw [Int.tmod_eq_emod_of_nonneg (by omega)];norm_cast

theorem o_un {k a b:Nat} (h:SmallR k a b) (y t:Int) (f:Bool):∃(Y T:Nat) (F:Bool),WellR k a b Y T F∧Eqn Tryz.prog o_8v [.d (parD k a b),.d (.agg [.int .i64 y,.int .i64 t,.bool f])] [] (.d (tsD Y T F)) []:=by
 rcases h with ⟨rfl,h1,h2,h3⟩ | ⟨hk,h⟩
 ·obtain ⟨N1,Y,a1,a2,a3,a4⟩:=o_um y 7 a (by omega) (by omega)
  obtain ⟨N2,T,b1,b2,b3,b4⟩:=o_um t 3 b (by omega) (by omega)
  replace a1:bits BinOp.and IntKind.i64 y 7=N1:=a1
  replace b1:bits BinOp.and IntKind.i64 t 3=N2:=b1
  refine ⟨Y,T,f&&(T==b),.inl ⟨rfl,a4,b4,by simp⟩,?_⟩
  refine Eqn.pure o_8x Plain.ok ?_
  have hF:((T:Int)==(b:Int))=(T==b):=by rw [Bool.eq_iff_iff];simp;omega
  refine cc (c':=?z162) ?_ ?_
  case refine_1=>cbv<;>exact rfl
  try simp only [parD,tsD]
  generalize (T==b)=F at *
  cases f with
  | true =>
   refine G0B ?_;try with_reducible exact tt
   refine AW.cond rfl (fun h=>?_) (fun h=>?_)
   ·refine G1B (fs a1 (fs a2 (fs a3 (fs b1 (fs b2 (fs b3 hF)))))) ?_;try with_reducible exact tt
   ·simp at h
  | false =>
   refine G0B ?_;try with_reducible exact tt
   refine AW.cond rfl (fun h=>?_) (fun h=>?_)
   ·refine G1B (fs a1 (fs a2 (fs a3 (fs b1 (fs b2 (fs b3 hF)))))) ?_;try with_reducible exact tt
   ·simp at h
 ·have hW:2^b-1≤15:=by have:=Nat.pow_le_pow_right (n:=2) (by omega) h.2.2;omega
  have hb2:0<2^b:=Nat.two_pow_pos b
  obtain ⟨N1,Y,a1,a2,a3,a4⟩:=o_um y 15 (2^b-1) (by omega) (by omega)
  replace a1:bits BinOp.and IntKind.i64 y 15=N1:=a1
  refine ⟨Y,0,f&&(Y==2^b-1),.inr ⟨hk,rfl,a4,by simp⟩,?_⟩
  refine Eqn.pure o_8x Plain.ok ?_
  have hF:((Y:Int)==((2^b-1:Nat):Int))=(Y==2^b-1):=by rw [Bool.eq_iff_iff];simp only [beq_iff_eq];omega
  have e0:(2:Int)^b=(2^b:Nat):=by rw [Int.natCast_pow];rfl
  have hk':¬(k:Int)=4:=by omega
  have hb64:b≤64:=by have:=h.2.2;omega
  refine cc (c':=?z163) ?_ ?_
  case refine_1=>cbv<;>exact rfl
  try simp only [parD,tsD]
  generalize (Y==2^b-1)=F at *
  generalize 2^b=S at *
  have e3:IntKind.i64.wrap (S:Int)=S:=w64 (by omega) (by omega)
  have e4:IntKind.i64.wrap ((S:Int)-1)=((S-1:Nat):Int):=by rw [w64 (by omega) (by omega)];omega
  generalize S-1=S1 at *
  cases f with
  | true =>
   refine G1B (fs hk hk') ?_;try with_reducible exact tt
   refine AW.cond rfl (fun h=>?_) (fun h=>?_)
   ·simp [hk'] at h
   ·refine G1B (fs a1 (fs a2 (fs a3 (fs e0 (fs e3 (fs e4 (fs hF hb64))))))) ?_;try with_reducible exact tt
  | false =>
   refine G1B (fs hk hk') ?_;try with_reducible exact tt
   refine AW.cond rfl (fun h=>?_) (fun h=>?_)
   ·simp [hk'] at h
   ·refine G1B (fs a1 (fs a2 (fs a3 (fs e0 (fs e3 (fs e4 (fs hF hb64))))))) ?_;try with_reducible exact tt

theorem o_uo (k a b:Int):∃K A B:Nat,SmallR K A B∧∀(y t:Int) (f:Bool),∃(Y T:Nat) (F:Bool),WellR K A B Y T F∧Eqn Tryz.prog o_7v [.d (parD k a b),.d (.agg [.int .i64 y,.int .i64 t,.bool f])] [] (.tup [.d (parD K A B),.d (tsD Y T F)]) []:=by
 obtain ⟨e1,K,e2,hK,e3⟩:=o_pz k 4 (by omega) (by omega)
 obtain ⟨B1,B2,b1,b2,b3,b4⟩:=o_um b 255 3 (by omega) (by omega)
 replace b1:bits BinOp.and IntKind.i64 b 255=B1:=b1
 replace b3:(B1:Int).tmod 4=B2:=b3
 obtain ⟨B3,d1,d2,d3⟩:=o_q0 b 3 (by omega)
 obtain ⟨A1,a1,a2,a3⟩:=o_q0 a 3 (by omega)
 obtain ⟨A2,a4,a5,a6⟩:=o_q0 a 1 (by omega)
 obtain ⟨A3,a7,a8,a9⟩:=o_q0 a 7 (by omega)
 replace a1:bits BinOp.and IntKind.i64 a 3=A1:=a1
 replace a4:bits BinOp.and IntKind.i64 a 1=A2:=a4
 replace a7:bits BinOp.and IntKind.i64 a 7=A3:=a7
 replace d1:bits BinOp.and IntKind.i64 b 3=B3:=d1
 have e4:IntKind.i64.wrap (1+(B2:Int))=((1+B2:Nat):Int):=by rw [w64 (by omega) (by omega)];omega
 have hK':K=0∨K=1∨K=2∨K=3:=by omega
 rcases hK' with rfl | rfl | rfl | rfl
 ·refine ⟨1,1+A1,1+B2,.inr ⟨by omega,by omega,by omega,by omega⟩,fun y t f=>?_⟩
  obtain ⟨Y,T,F,hw,hE⟩:=o_un (k:=1) (a:=1+A1) (b:=1+B2) (.inr ⟨by omega,by omega,by omega,by omega⟩) y t f
  refine ⟨Y,T,F,hw,?_⟩
  refine Eqn.pure o_7x Plain.ok ?_
  refine cc (c':=?z164) ?_ ?_
  case refine_1=>cbv<;>exact rfl
  try simp only [parD,tsD] at hE ⊢
  generalize 1+A1=XA at *
  generalize 1+B2=XB at *
  refine G1B (fs e1 (fs e2 e3)) ?_;try with_reducible exact tt
  refine AW.cond rfl (fun h=>?_) (fun h=>?_)
  ·refine G1B (fs b1 (fs b3 (fs e4 (fs a1 a3)))) ?_;try with_reducible exact tt
   simp at hE
   refine CallS.pu (hE) (R0B ?_);try with_reducible exact tt
  ·simp at h
 ·refine ⟨2,A2,1+B2,.inr ⟨by omega,by omega,by omega,by omega⟩,fun y t f=>?_⟩
  obtain ⟨Y,T,F,hw,hE⟩:=o_un (k:=2) (a:=A2) (b:=1+B2) (.inr ⟨by omega,by omega,by omega,by omega⟩) y t f
  refine ⟨Y,T,F,hw,?_⟩
  refine Eqn.pure o_7x Plain.ok ?_
  refine cc (c':=?z165) ?_ ?_
  case refine_1=>cbv<;>exact rfl
  try simp only [parD,tsD] at hE ⊢
  generalize 1+B2=XB at *
  refine G1B (fs e1 (fs e2 e3)) ?_;try with_reducible exact tt
  refine AW.cond rfl (fun h=>?_) (fun h=>?_)
  ·simp at h
  refine G0B ?_;try with_reducible exact tt
  refine AW.cond rfl (fun h=>?_) (fun h=>?_)
  ·refine G1B (fs b1 (fs b3 (fs e4 a4))) ?_;try with_reducible exact tt
   simp at hE
   refine CallS.pu (hE) (R0B ?_);try with_reducible exact tt
  ·simp at h
 ·refine ⟨3,1+A2,1+B2,.inr ⟨by omega,by omega,by omega,by omega⟩,fun y t f=>?_⟩
  obtain ⟨Y,T,F,hw,hE⟩:=o_un (k:=3) (a:=1+A2) (b:=1+B2) (.inr ⟨by omega,by omega,by omega,by omega⟩) y t f
  refine ⟨Y,T,F,hw,?_⟩
  refine Eqn.pure o_7x Plain.ok ?_
  refine cc (c':=?z166) ?_ ?_
  case refine_1=>cbv<;>exact rfl
  try simp only [parD,tsD] at hE ⊢
  generalize 1+A2=XA at *
  generalize 1+B2=XB at *
  refine G1B (fs e1 (fs e2 e3)) ?_;try with_reducible exact tt
  refine AW.cond rfl (fun h=>?_) (fun h=>?_)
  ·simp at h
  refine G0B ?_;try with_reducible exact tt
  refine AW.cond rfl (fun h=>?_) (fun h=>?_)
  ·simp at h
  refine G0B ?_;try with_reducible exact tt
  refine AW.cond rfl (fun h=>?_) (fun h=>?_)
  ·refine G1B (fs b1 (fs b3 (fs e4 (fs a4 a6)))) ?_;try with_reducible exact tt
   simp at hE
   refine CallS.pu (hE) (R0B ?_);try with_reducible exact tt
  ·simp at h
 ·refine ⟨4,1+A3,B3,.inl ⟨rfl,by omega,by omega,by omega⟩,fun y t f=>?_⟩
  obtain ⟨Y,T,F,hw,hE⟩:=o_un (k:=4) (a:=1+A3) (b:=B3) (.inl ⟨rfl,by omega,by omega,by omega⟩) y t f
  refine ⟨Y,T,F,hw,?_⟩
  refine Eqn.pure o_7x Plain.ok ?_
  refine cc (c':=?z167) ?_ ?_
  case refine_1=>cbv<;>exact rfl
  try simp only [parD,tsD] at hE ⊢
  generalize 1+A3=XA at *
  refine G1B (fs e1 (fs e2 e3)) ?_;try with_reducible exact tt
  refine AW.cond rfl (fun h=>?_) (fun h=>?_)
  ·simp at h
  refine G0B ?_;try with_reducible exact tt
  refine AW.cond rfl (fun h=>?_) (fun h=>?_)
  ·simp at h
  refine G0B ?_;try with_reducible exact tt
  refine AW.cond rfl (fun h=>?_) (fun h=>?_)
  ·simp at h
  ·refine G1B (fs d1 (fs a7 a9)) ?_;try with_reducible exact tt
   simp at hE
   refine CallS.pu (hE) (R0B ?_);try with_reducible exact tt
end
section
open Go.RowKit
end
section
open Go.RowKit
end
section
open Go.RowKit

theorem o_up {P:Program} {f:FuncId} {c:C} {rs:List RV} {nt:Nat} (hf:fnOf P f=some (c,rs,nt,false)) (vs:Array Value) (w:World):(callFunc f vs).run P w = .ok (.enter f vs) w:=by
 unfold fnOf at hf
 split at hf
 ·rename_i fn hfn
  split at hf
  ·rename_i b hb
   simp only [Option.some.injEq,Prod.mk.injEq] at hf
   obtain ⟨h1,h2,h3,h4⟩:=hf
   have h1 : ¬ fn.name = "runtime.NumGoroutine" := by simpa using h4
   simp [callFunc,hfn,h1,hb]
  ·cases hf
 ·cases hf

abbrev memW (W:World):Mem:=⟨fun _=>none,fun b=>b<W.heap.size,W⟩

theorem o_uq {m:Mem} (h:∀g,tab g=none):Tabs m:=fun g l hg=>by rw [h g] at hg;cases hg
theorem o_ur {P:Program} {f:FuncId} {args:List V} {c:C} {rs:List RV} {nt:Nat} (hf:fnOf P f=some (c,rs,nt,false)) (E:Eqn P f args [] (.d (.bool true)) []) {W:World} {vs:List Value} (h:V.reps (memW W) args vs) (ht:Tabs (memW W)) :
  Calls P f vs.toArray W (fun e W'=>e = .returned (.bool true)∧Same W W'):=by
 rcases E.run (memW W) vs ⟨fun b h=>h,fun n b h=>(by cases h),ht⟩ h (by simp) (fun n i b h=>by simp at h) (fun _ _=>rfl) with ⟨v,h1,_⟩ | ⟨_,h2⟩
 ·rw [o_up hf] at h1;cases h1
 ·refine h2.mono ?_
  rintro e w' ⟨v,m',rfl,rfl,hE⟩
  have hv:=hE.rep
  rw [V.rep_d] at hv
  unfold D.rep at hv
  subst hv
  exact ⟨rfl,hE.le.os,hE.le.tape,hE.le.output,hE.le.size,fun k hk _=>hE.le.imm k hk⟩

theorem law_walk {P:Program} {f:FuncId} {args:List V} {c:C} {rs:List RV} {nt:Nat} (hf:fnOf P f=some (c,rs,nt,false)) (E:Eqn P f args [] (.d (.bool true)) []) {W:World} {vs:List Value} (h:V.reps (memW W) args vs) (ht:Tabs (memW W):=by exact o_uq fun _=>rfl) :
  Calls P f vs.toArray W (fun e W'=>e = .returned (.bool true)∧Same W W'):=o_ur hf E h ht

theorem reps_of {I:Nat→Prop} {w:World} {α:Type} (f:α→D) (g:α→Value) (h:∀a,D.rep I w (f a) (g a)):∀l:List α,D.reps I w (l.map f) (l.map g)
 | []=>by simp
 | a::l=>by
  rw [List.map_cons,List.map_cons,D.reps_cons]
  exact ⟨h a,reps_of f g h l⟩

theorem o_us {W:World} {l:List D} {vs:List Value} (h1:∀u∈vs,u.oneCell'=true) (h:D.reps (fun b=>b<W.heap.size) W l vs):V.rep (memW W) (.d (.agg l)) (.agg vs.toArray):=by
 rw [V.rep_d]
 unfold D.rep
 exact ⟨vs,rfl,h1,h⟩
end
section
open Go.RowKit
end
section
open Go.RowKit
def renA:Go.Shelf.Ren:=⟨fun | 6=>73 | 15=>103 | 14=>102 | 28=>126 | 29=>127 | 20=>118 | 21=>119 | 22=>120 | 23=>121 | 24=>122 | 25=>123 | 26=>124 | 27=>125 | 46=>134 | 47=>135 | 48=>136 | 49=>137 | 50=>138 | 57=>140 | n=>n,fun | 22=>41 | 24=>54 | 25=>130 | 3=>3 | 39=>158 | 0=>0 | 53=>179 | 55=>136 | 4=>4 | 46=>172 | 45=>171 | 50=>176 | 5=>5 | 9=>9 | 66=>185 | 70=>189 | 76=>194 | 77=>195 | n=>n,fun n=>n⟩
theorem sortL:Go.Proofs.SlLaysF0.n6 Tryz.prog renA where
 mixed:=by kernel_rfl
 f6 := ⟨"slices.SortFunc[[]tallymark/pmf.Atom,tallymark/pmf.Atom]", of_decide_eq_true (by kernel_rfl), Tryz.func73.trans (congrArg some (by kernel_rfl))⟩
 f14 := ⟨"slices.pdqsortCmpFunc[tallymark/pmf.Atom]", of_decide_eq_true (by kernel_rfl), Tryz.func102.trans (congrArg some (by kernel_rfl))⟩
 f15:=Tryz.func103.trans (congrArg some (by kernel_rfl))
 f20 := ⟨"slices.insertionSortCmpFunc[tallymark/pmf.Atom]", of_decide_eq_true (by kernel_rfl), Tryz.func118.trans (congrArg some (by kernel_rfl))⟩
 f21 := ⟨"slices.heapSortCmpFunc[tallymark/pmf.Atom]", of_decide_eq_true (by kernel_rfl), Tryz.func119.trans (congrArg some (by kernel_rfl))⟩
 f22 := ⟨"slices.breakPatternsCmpFunc[tallymark/pmf.Atom]", of_decide_eq_true (by kernel_rfl), Tryz.func120.trans (congrArg some (by kernel_rfl))⟩
 f23 := ⟨"slices.choosePivotCmpFunc[tallymark/pmf.Atom]", of_decide_eq_true (by kernel_rfl), Tryz.func121.trans (congrArg some (by kernel_rfl))⟩
 f24 := ⟨"slices.reverseRangeCmpFunc[tallymark/pmf.Atom]", of_decide_eq_true (by kernel_rfl), Tryz.func122.trans (congrArg some (by kernel_rfl))⟩
 f25 := ⟨"slices.partialInsertionSortCmpFunc[tallymark/pmf.Atom]", of_decide_eq_true (by kernel_rfl), Tryz.func123.trans (congrArg some (by kernel_rfl))⟩
 f26 := ⟨"slices.partitionEqualCmpFunc[tallymark/pmf.Atom]", of_decide_eq_true (by kernel_rfl), Tryz.func124.trans (congrArg some (by kernel_rfl))⟩
 f27 := ⟨"slices.partitionCmpFunc[tallymark/pmf.Atom]", of_decide_eq_true (by kernel_rfl), Tryz.func125.trans (congrArg some (by kernel_rfl))⟩
 f28:=Tryz.func126.trans (congrArg some (by kernel_rfl))
 f29:=Tryz.func127.trans (congrArg some (by kernel_rfl))
 f46 := ⟨"slices.siftDownCmpFunc[tallymark/pmf.Atom]", of_decide_eq_true (by kernel_rfl), Tryz.func134.trans (congrArg some (by kernel_rfl))⟩
 f47:=Tryz.func135.trans (congrArg some (by kernel_rfl))
 f48:=Tryz.func136.trans (congrArg some (by kernel_rfl))
 f49 := ⟨"slices.medianAdjacentCmpFunc[tallymark/pmf.Atom]", of_decide_eq_true (by kernel_rfl), Tryz.func137.trans (congrArg some (by kernel_rfl))⟩
 f50 := ⟨"slices.medianCmpFunc[tallymark/pmf.Atom]", of_decide_eq_true (by kernel_rfl), Tryz.func138.trans (congrArg some (by kernel_rfl))⟩
 f57 := ⟨"slices.order2CmpFunc[tallymark/pmf.Atom]", of_decide_eq_true (by kernel_rfl), Tryz.func140.trans (congrArg some (by kernel_rfl))⟩
 t0:=Tryz.underlying0
 a0:=Tryz.isAgg0
 z0:=Tryz.sizeOf0
 v0:=Tryz.zeroValue0
 t3:=Tryz.underlying3
 a3:=Tryz.isAgg3
 z3:=Tryz.sizeOf3
 v3:=Tryz.zeroValue3
 t4:=Tryz.underlying4
 a4:=Tryz.isAgg4
 z4:=Tryz.sizeOf4
 v4:=Tryz.zeroValue4
 t5:=Tryz.underlying5
 a5:=Tryz.isAgg5
 z5:=Tryz.sizeOf5
 v5:=Tryz.zeroValue5
 t9:=Tryz.underlying9
 a9:=Tryz.isAgg9
 z9:=Tryz.sizeOf9
 v9:=Tryz.zeroValue9
 t22:=Tryz.underlying41
 a22:=Tryz.isAgg41
 z22:=Tryz.sizeOf41
 v22:=Tryz.zeroValue41
 t25:=Tryz.underlying130
 a25:=Tryz.isAgg130
 z25:=Tryz.sizeOf130
 v25:=Tryz.zeroValue130
 t39:=Tryz.underlying158
 a39:=Tryz.isAgg158
 z39:=Tryz.sizeOf158
 v39:=Tryz.zeroValue158
 t45:=Tryz.underlying171
 a45:=Tryz.isAgg171
 z45:=Tryz.sizeOf171
 v45:=Tryz.zeroValue171
 t46:=Tryz.underlying172
 a46:=Tryz.isAgg172
 z46:=Tryz.sizeOf172
 v46:=Tryz.zeroValue172
 t50:=Tryz.underlying176
 a50:=Tryz.isAgg176
 z50:=Tryz.sizeOf176
 v50:=Tryz.zeroValue176
 t53:=Tryz.underlying179
 a53:=Tryz.isAgg179
 z53:=Tryz.sizeOf179
 v53:=Tryz.zeroValue179
 t55:=Tryz.underlying136
 a55:=Tryz.isAgg136
 z55:=Tryz.sizeOf136
 v55:=Tryz.zeroValue136
 t66:=Tryz.underlying185
 a66:=Tryz.isAgg185
 z66:=Tryz.sizeOf185
 v66:=Tryz.zeroValue185
 t70:=Tryz.underlying189
 a70:=Tryz.isAgg189
 z70:=Tryz.sizeOf189
 v70:=Tryz.zeroValue189
 t76:=Tryz.underlying194
 a76:=Tryz.isAgg194
 z76:=Tryz.sizeOf194
 v76:=Tryz.zeroValue194
 t77:=Tryz.underlying195
 a77:=Tryz.isAgg195
 z77:=Tryz.sizeOf195
 v77:=Tryz.zeroValue195
theorem aggAtom:∀w,(Go.isAgg (renA.t 24)).run Tryz.prog w = .ok true w:=Tryz.isAgg54
theorem sizeAtom:∀w,(Go.sizeOf (renA.t 24)).run Tryz.prog w = .ok 6 w:=Tryz.sizeOf54
end
section
open Go.RowKit
def more (S:Nat→Bool) (i:Nat):Nat→Bool:=fun j=>S j || j==i
section
variable {P:Program} {ops:Array Oper} {Q:Exit→Act→World→Prop} {FT:(Nat→Bool)→List V} {FH:(Nat→Bool)→List (Option Ob)} {good:(Nat→Bool)→Prop} {N:Nat}

theorem o_ut (hlt:∀i o,ops[i]?=some o→∀j∈afterOf o,j<i) (hN:∀S,(FH S).length=N)
  (hst:∀S i o,good S→ops[i]?=some o→S i=false→(∀j∈afterOf o,S j=true)→∃x e,StepI P ops o (FT S) (FH S) x (FH (more S i)) e∧FT (more S i)=putT (FT S) o.dst x∧good (more S i))
  {m0:Mem} (hQ:∀S a m,good S→(∀j,j<ops.size→S j=true)→Sat m a (FT S) (FH S)→m0.le m (· < N)→Q .normal a m.w) :
  ∀(fuel:Nat) (listed:Array Bool) (a:Act) (m:Mem),listed.size=ops.size→good (fun j=>listed.getD j false)→Sat m a (FT fun j=>listed.getD j false) (FH fun j=>listed.getD j false)→m0.le m (· < N)→cnt (fun j=>listed.getD j false) ops.size≤fuel→wpAny P .any ops Q fuel listed a m.w:=by
 have all_done:∀(listed:Array Bool),listed.size=ops.size→Region.ready .any ops listed=[]→∀i,i<ops.size→listed.getD i false=true:=by
  intro listed hlen hr i
  induction i using Nat.strongRecOn with
  | _ i ih =>
   intro hi
   cases hb:listed.getD i false with
   | true=>rfl
   | false =>
    exfalso
    have ho:ops[i]?=some ops[i]:=by simp [hi]
    have:i∈Region.ready .any ops listed:=o_4s ho (by
     simp only [Array.getD_eq_getD_getElem?] at hb ⊢
     rw [Array.getElem?_eq_getElem (by omega)] at hb ⊢
     simpa using hb) fun j hj=>by
     have:=hlt i _ ho j hj
     exact ih j this (by omega)
    rw [hr] at this
    simp at this
 intro fuel
 induction fuel with
 | zero =>
  intro listed a m hls hg hm hle hc
  have hall:=o_4p _ (Nat.le_zero.1 hc)
  refine ⟨?_,hQ _ a m hg hall hm hle⟩
  rw [List.eq_nil_iff_forall_not_mem]
  intro i hi
  obtain ⟨o,ho,h1,_⟩:=o_4r hi
  have hi':i<ops.size:=(Array.getElem?_eq_some_iff.1 ho).1
  have:=hall i hi'
  simp only [Array.getD_eq_getD_getElem?] at this h1
  rw [Array.getElem?_eq_getElem (by omega)] at this h1
  simp at this h1
  rw [this] at h1;cases h1
 | succ fuel ih =>
  intro listed a m hls hg hm hle hc
  refine ⟨fun hr=>hQ _ a m hg (all_done listed hls hr) hm hle,fun i hi=>?_⟩
  obtain ⟨o,ho,h1,h2⟩:=o_4r hi
  have hi':i<ops.size:=(Array.getElem?_eq_some_iff.1 ho).1
  have hSi:listed.getD i false=false:=by
   simp only [Array.getD_eq_getD_getElem?] at h1 ⊢
   rw [Array.getElem?_eq_getElem (by omega)] at h1 ⊢
   simpa using h1
  generalize hSdef:(fun j=>listed.getD j false)=S at *
  have hS:∀j,S j=listed.getD j false:=fun j=>by rw [←hSdef]
  have hset':(fun j=>(listed.setIfInBounds i true).getD j false)=more S i:=funext fun j=>by
   unfold more
   simp only [hS,Array.getD_eq_getD_getElem?,Array.getElem?_setIfInBounds]
   by_cases e:i=j
   ·subst e
    simp [show i<listed.size by omega]
   ·simp [e,show ¬j=i by omega]
  have hcnt:cnt (fun j=>(listed.setIfInBounds i true).getD j false) ops.size≤fuel:=by
   rw [hset']
   have:=o_4o (S:=S) (i:=i) (by rw [hS];exact hSi) ops.size hi'
   unfold more
   omega
  obtain ⟨x,e,hstep,hput,hgood⟩:=hst S i o hg ho (by rw [hS];exact hSi) fun j hj=>by rw [hS];exact h2 j hj
  unfold wpOp
  rw [ho]
  simp only
  have hgo:∀v m',Sat m' (a.put o.dst v) (putT (FT S) o.dst x) (FH (more S i))→m.le m' (· < (FH S).length)→wpAny P .any ops Q fuel (listed.setIfInBounds i true) (a.put o.dst v) m'.w:=fun v m' hs hle'=>by
   refine ih _ _ m' (by simp [hls]) (by rw [hset'];exact hgood) (by rw [hset',hput];exact hs) ?_ hcnt
   rw [hN] at hle'
   exact hle.trans hle' fun n b hb hn=>hn
  have:=o_4f hstep hm (fun a' w'=>wpAny P .any ops Q fuel (listed.setIfInBounds i true) a' w') Q hgo
  split at this
  ·rename_i hw
   rw [if_pos hw]
   exact .inl this
  ·rename_i hw
   rw [if_neg hw]
   exact this
end
def A.isBad:A→Bool
 | .bad=>true
 | _=>false
def okFam:Nat→List O→Bool
 | _,[]=>true
 | i,o::os=>o.g.isNone&&!o.a.isBad&&o.after.all (· < i)&&okFam (i+1) os
theorem o_uu:∀{os:List O} {k:Nat},okFam k os=true→∀{i:Nat} {o:O},os[i]?=some o→o.g=none∧o.a.isBad=false∧∀j∈o.after,j<k+i
 | [],_,_,i,o,h=>by simp at h
 | o'::os,k,hk,i,o,h=>by
  unfold okFam at hk
  simp only [Bool.and_eq_true,Option.isNone_iff_eq_none,Bool.not_eq_true',List.all_eq_true,decide_eq_true_eq] at hk
  obtain ⟨⟨⟨h1,h2⟩,h3⟩,h4⟩:=hk
  cases i with
  | zero=>simp at h;subst h;exact ⟨h1,h2,fun j hj=>by have:=h3 j hj;omega⟩
  | succ i =>
   obtain ⟨a1,a2,a3⟩:=o_uu h4 (by simpa using h)
   exact ⟨a1,a2,fun j hj=>by have:=a3 j hj;omega⟩
theorem o_uv {P:Program} (hmix:P.follows .mixedOrders=true) {id:Nat} {ops:Array Oper} {Q:Exit→List V→List (Option Ob)→Prop} {T:List V} {H:List (Option Ob)} (FT:(Nat→Bool)→List V) (FH:(Nat→Bool)→List (Option Ob)) (good:(Nat→Bool)→Prop)
  (hok:okFam 0 (ops.toList.map (resolveQ P true ops))=true) (h0:FT (fun _=>false)=T) (h1:FH (fun _=>false)=H) (hN:∀S,(FH S).length=H.length) (hg:good fun _=>false)
  (hst:∀S i o,good S→(ops.toList.map (resolveQ P true ops))[i]?=some o→S i=false→(∀j∈o.after,S j=true)→good (more S i)∧o.a.step P (FT S) (FH S) fun x H' _ _=>H'=FH (more S i)∧FT (more S i)=putT (FT S) o.dst x)
  (hQ:∀S,good S→(∀j,j<ops.size→S j=true)→Q .normal (FT S) (FH S)):AWp P (.region id ops true) Q T H:=by
 intro m a sat
 have get:∀i o,ops[i]?=some o→(ops.toList.map (resolveQ P true ops))[i]?=some (resolveQ P true ops o):=fun i o ho=>by
  rw [List.getElem?_map,Array.getElem?_toList,ho];rfl
 have plain:∀i o,ops[i]?=some o→o.guard=none∧resolveQ P true ops o=⟨o.dst,resolveA P true ops o,none,afterOf o⟩:=fun i o ho=>by
  obtain ⟨g1,g2,-⟩:=o_uu hok (get i o ho)
  unfold resolveQ at g1 g2 ⊢
  split at g1
  ·rename_i hgd;exact ⟨hgd,by simp only [hgd]⟩
  ·rename_i j w hgd
   simp only [hgd] at g2
   split at g1
   ·rename_i hnx;rw [if_pos hnx] at g2;cases g2
   ·rename_i hnx
    rw [if_neg hnx] at g2
    split at g1
    ·cases g1
    ·rename_i hd;simp only [hd] at g2;cases g2
 have hlt:∀i o,ops[i]?=some o→∀j∈afterOf o,j<i:=fun i o ho j hj=>by
  obtain ⟨-,-,g3⟩:=o_uu hok (get i o ho)
  rw [(plain i o ho).2] at g3
  have:=g3 j hj
  omega
 have hstep:∀S i o,good S→ops[i]?=some o→S i=false→(∀j∈afterOf o,S j=true)→∃x e,StepI P ops o (FT S) (FH S) x (FH (more S i)) e∧FT (more S i)=putT (FT S) o.dst x∧good (more S i):=fun S i o hgS ho hSi haf=>by
  obtain ⟨p1,p2⟩:=plain i o ho
  obtain ⟨k1,k2⟩:=hst S i _ hgS (get i o ho) hSi (by rw [p2];exact haf)
  rw [p2] at k2
  obtain ⟨x,H',rd,wr,⟨rfl,k3⟩,k4⟩:=o_45 k2 (fun h=>by cases h)
  exact ⟨x,⟨(resolveA P true ops o).slots,o.dst,rd,wr,afterOf o⟩,⟨rfl,rfl,.inl ⟨_,fun s hs=>hs,k4,.inl p1⟩⟩,k3,k1⟩
 have hd:m.le ⟨m.ρ,m.I,{ m.w with drawn:=m.w.drawn+1 }⟩ (· < H.length):=⟨fun _ _ h=>h,fun _ h=>h,rfl,rfl,rfl,Nat.le_succ _,Nat.le_refl _,fun _ _ _=>rfl,fun _ _=>rfl,fun _ _=>rfl,fun _ h=>.inl h,fun _ _ h=>.inl h⟩
 refine wp_region_any hmix ?_
 have hS:(fun j=>(Array.replicate ops.size false).getD j false)=fun _=>false:=by
  funext j
  simp only [Array.getD_eq_getD_getElem?,Array.getElem?_replicate]
  split<;>rfl
 refine o_ut (P:=P) (ops:=ops) (FT:=FT) (FH:=FH) (good:=good) (N:=H.length) hlt hN hstep (m0:=m) (fun S a' m' hgS hall hs hle=>⟨FT S,FH S,m',rfl,hQ S hgS hall,hs,hle,by rw [hN];exact Nat.le_refl _⟩) ops.size (Array.replicate ops.size false) a ⟨m.ρ,m.I,{ m.w with drawn:=m.w.drawn+1 }⟩ (by simp) (by rw [hS];exact hg) ?_ hd (o_4q _ _)
 rw [hS,h0,h1]
 refine ⟨⟨sat.base.imm,sat.base.dom,sat.base.tabs.le hd⟩,fun s=>V.rep_mono hd _ _ (sat.slots s),fun n ob h=>?_,sat.inj,sat.top,sat.size,sat.defers⟩
 obtain ⟨b,vs,mo,k1,k2,k3,k4,k5⟩:=sat.obj n ob h
 exact ⟨b,vs,mo,k1,k2,k3,V.reps_mono hd _ _ k4,k5⟩
theorem AW.regF {P:Program} {L:Nat} {os:List O} {Q:Exit→List V→List (Option Ob)→Prop} {T:List V} {H:List (Option Ob)} (hmix:P.follows .mixedOrders=true) (FT:(Nat→Bool)→List V) (FH:(Nat→Bool)→List (Option Ob)) (good:(Nat→Bool)→Prop)
  (hok:okFam 0 os=true) (h0:FT (fun _=>false)=T) (h1:FH (fun _=>false)=H) (hN:∀S,(FH S).length=H.length) (hg:good fun _=>false)
  (hst:∀S i o,good S→os[i]?=some o→S i=false→(∀j∈o.after,S j=true)→good (more S i)∧o.a.step P (FT S) (FH S) fun x H' _ _=>H'=FH (more S i)∧FT (more S i)=putT (FT S) o.dst x)
  (hQ:∀S,good S→(∀j,j<os.length→S j=true)→Q .normal (FT S) (FH S)):AW P L (.reg true os) Q T H:=by
 intro code hc m0 m a sat hle htop hL
 cases code<;>simp [resolveC] at hc
 rename_i id cops d
 obtain ⟨rfl,rfl⟩:=hc
 have:AWp P (.region id cops true) Q T H:=o_uv hmix FT FH good hok h0 h1 hN hg hst fun S hS hall=>hQ S hS fun j hj=>hall j (by simpa using hj)
 refine wp_mono (this m a sat) ?_
 rintro e a' w' ⟨T',H',m',rfl,hq,sat',hle',hL'⟩
 refine ⟨T',H',m',rfl,hq,sat',hle.trans hle' fun n b hb hn=>?_,Nat.le_trans hL hL'⟩
 rcases Nat.lt_or_ge n L with h | h
 ·exact h
 ·rw [htop n h] at hb;cases hb
end
section
open Go.RowKit
def valF (d k:Nat):Nat:=(2^d+k%2^d)*2^(k/2^d)-2^d
def valC (k a y:Nat):Rat:=if k=1 then valM a y else if k=2 then ((valF a y:Nat):Rat) else (((placeY a y).value:Nat):Rat)
end
section
open Go.RowKit
def valR (k a b y t:Nat):Rat:=if k=4 then ((y*2^t:Nat):Rat) else valC k a y
end
section

end
section
open Go.RowKit
end
section
structure Lk (l:ByteArray) (x y z c e:Nat):Prop where
 wy:IntKind.u32.wrap ((x:Int)*2)=y
 wz:IntKind.u32.wrap ((y:Int)+1)=z
 gy:∀h,(l.data[y]'h).toNat=c
 gz:∀h,(l.data[z]'h).toNat=e
 ny:y<l.size
 nz:z<l.size
 hc:c=48+x/10
 he:e=48+x%10
theorem lk (l:ByteArray) (hl:l.size=200) (h:∀x,x<100→(l.data.toList.getD (x*2) 0).toNat=48+x/10∧(l.data.toList.getD (x*2+1) 0).toNat=48+x%10) (x:Nat) (hx:x<100):∃y z c e,Lk l x y z c e :=
 ⟨x*2,x*2+1,48+x/10,48+x%10,by rw [IntKind.wrap_u32];omega,by rw [IntKind.wrap_u32];omega,fun k=>by have:=(h x hx).1;rw [List.getD_eq_getElem?_getD,List.getElem?_eq_getElem (by simpa using k)] at this;simpa using this,fun k=>by have:=(h x hx).2;rw [List.getD_eq_getElem?_getD,List.getElem?_eq_getElem (by simpa using k)] at this;simpa using this,by omega,by omega,rfl,rfl⟩
end
section
open Go.RowKit
end
section
open Go.RowKit
end
section
open Go.RowKit
@[simp] theorem o_uw:ByteArray.size ⟨#[48]⟩=1:=rfl
end
section
open Go.RowKit
end
section
def dsmall (ws:List Nat):Prop:=∀x∈ws,x<10000

theorem dsmall.take {ws:List Nat} (h:dsmall ws) (n:Nat):dsmall (ws.take n):=fun x hx=>h x (List.mem_of_mem_take hx)

theorem dsmall.getD {l:List Nat} (h:dsmall l) (n:Nat):l.getD n 0<10000:=by
 by_cases hn:n<l.length
 ·rw [List.getD,List.getElem?_eq_getElem hn];exact h _ (List.getElem_mem hn)
 ·simp [List.getD,List.getElem?_eq_none (show l.length≤n by omega)]
end
section

end
section
open Go.RowKit
end
section
open Go.RowKit
end
section
open Go.RowKit
end
section
open Go.RowKit
end
section
open Go.RowKit
end
section
open Go.RowKit
theorem o_ux (n s:Nat) (ds:List D) (l:List D):V.frzs n s ds (l.map V.d)=l.map V.d:=by
 rw [o_59];simp [V.frz]
end
section
open Go.RowKit
attribute [simp] o_ux o_61 o_62
@[simp] theorem o_uy (θ:Nat→Nat):∀l k:List V,V.rens θ (l++k)=V.rens θ l++V.rens θ k
 | [],k=>by simp [V.rens]
 | x::l,k=>by simp [V.rens,o_uy θ l k]
@[simp] theorem o_uz (n:Nat):∀l k:List V,V.lowl n (l++k)=(V.lowl n l&&V.lowl n k)
 | [],k=>by simp [V.lowl]
 | x::l,k=>by simp [V.lowl,o_uz n l k,Bool.and_assoc]
end
section
open Go.RowKit
end
section
open Go.RowKit
end
section
open Go.RowKit
end
section
open Go.RowKit
theorem dsmall.set {l:List Nat} (h:dsmall l) (j v:Nat) (hv:v<10000):dsmall (l.set j v):=fun x hx=>by
 rcases List.mem_or_eq_of_mem_set hx with h1 | h1
 ·exact h x h1
 ·rw [h1];exact hv
@[simp] theorem lowI (n:Nat):∀l:List Nat,V.lowl n (l.map fun x:Nat=>V.d (D.int .i64 x))=true
 | []=>rfl
 | x::l=>by
  have:=lowI n l
  simp only [List.map_cons,V.lowl,this];rfl
@[simp] theorem lowR (n m:Nat) (x:D):V.lowl n (List.replicate m (V.d x))=true:=by
 induction m with
 | zero=>rfl
 | succ m ih=>simp only [List.replicate_succ,V.lowl,ih];rfl
end
section
open Go.RowKit
end
section
open Go.RowKit
def hP:Nat:=2305843009213693951
def hsum (a b key:Nat):Nat:=(a*key%hP+b)%hP
end
section
open Go.RowKit
end
section
open Go.RowKit
end
section
open Go.RowKit
end
section
open Go.RowKit
@[simp] theorem o_v0:intsV []=some []:=rfl
@[simp] theorem o_v1 (n:Int):intsV [.d (.int .u8 n)]=some [n]:=rfl
end
section
open Go.RowKit
end
section
open Go.RowKit
end
section
open Go.RowKit
@[simp] theorem o_v2 (l:List D):V.toDs (l.map .d)=some l:=by induction l<;>simp_all [V.toDs]
abbrev St:=Nat×Nat×Bool
def stD (s:St):List D:=[.int .i64 s.1,.int .i64 s.2.1,.bool s.2.2]
@[simp] theorem o_v3 (s:St):(stD s).length=3:=rfl
theorem o_v4 (s t:St):eqKs [0,0,1] (stD s) (stD t)=some (decide (s=t)):=by
 obtain ⟨a,b,c⟩:=s
 obtain ⟨a',b',c'⟩:=t
 unfold stD eqKs
 simp only [eqK,if_true,eqKs]
 simp only [Option.some.injEq,Bool.and_true]
 rw [Bool.eq_iff_iff]
 simp only [Bool.and_eq_true,beq_iff_eq,decide_eq_true_eq,Prod.mk.injEq]
 constructor
 ·rintro ⟨h1,h2,h3⟩;exact ⟨by omega,by omega,h3⟩
 ·rintro ⟨h1,h2,h3⟩;exact ⟨by omega,by omega,h3⟩

abbrev Sp:=List (St×Rat)
section
variable (rc:Rat→List D) (hrc:∀q,(rc q).length=3)
def spD (l:Sp):List D:=l.flatMap fun p=>stD p.1++rc p.2
theorem o_v5 (rc:Rat→List D) (hrc:∀q,(rc q).length=3) (l:Sp):(spD rc l).length=l.length*6:=by
 induction l with
 | nil=>rfl
 | cons p l ih=>rw [spD,List.flatMap_cons,List.length_append,←spD,ih];simp [hrc];omega
def idxQ (s:St):Sp→Option Nat
 | []=>none
 | p::l=>if s=p.1 then some 0 else (idxQ s l).map (·+1)
theorem o_v6 (rc:Rat→List D) (hrc:∀q,(rc q).length=3) (s:St):∀l:Sp,mfind [0,0,1] 3 (stD s) l.length (spD rc l)=some (idxQ s l)
 | []=>rfl
 | p::l=>by
  have e1:(spD rc (p::l)).take 3=stD p.1:=by
   rw [spD,List.flatMap_cons,List.append_assoc,List.take_append_of_le_length (by simp),List.take_of_length_le (by simp)]
  have e2:(spD rc (p::l)).drop 6=spD rc l:=by
   rw [spD,List.flatMap_cons,List.drop_append,List.drop_eq_nil_of_le (by simp [hrc]),List.nil_append]
   simp [hrc,spD]
  simp only [List.length_cons,mfind,List.length_nil]
  rw [e1,o_v4,e2]
  by_cases h:s=p.1
  ·simp [h,idxQ]
  ·simp only [h,decide_false]
   rw [o_v6 rc hrc s l]
   simp [idxQ,h]
def getQ (l:Sp) (s:St):Rat:=match l with
 | []=>0
 | p::r=>if s=p.1 then p.2 else getQ r s
def setQ (l:Sp) (s:St) (q:Rat):Sp:=match l with
 | []=>[(s,q)]
 | p::r=>if s=p.1 then (s,q)::r else p::setQ r s q
theorem o_v7 (s t:St) (q:Rat):∀l:Sp,getQ (setQ l s q) t=if t=s then q else getQ l t
 | []=>by simp [setQ,getQ]
 | p::r=>by
  unfold setQ
  split
  ·rename_i e
   unfold getQ
   by_cases h:t=s
   ·simp [h]
   ·simp [h,show ¬t=p.1 from fun h'=>h (h'.trans e.symm)]
  ·rename_i e
   unfold getQ
   rw [o_v7 s t q r]
   by_cases h:t=s
   ·subst h;simp [e]
   ·simp [h]
theorem o_v8 (s:St) (q:Rat):∀l:Sp,(setQ l s q).map (·.1)=if s∈l.map (·.1) then l.map (·.1) else l.map (·.1)++[s]
 | []=>by simp [setQ]
 | p::r=>by
  unfold setQ
  split
  ·rename_i e;simp [e]
  ·rename_i e
   simp only [List.map_cons,o_v8 s q r,List.mem_cons]
   by_cases h:s∈r.map (·.1)
   ·simp [h]
   ·simp [h,e]
theorem o_v9 {s:St} {q:Rat} {l:Sp} (h:(l.map (·.1)).Nodup):((setQ l s q).map (·.1)).Nodup:=by
 rw [o_v8]
 split
 ·exact h
 ·rename_i hs
  rw [List.nodup_append]
  refine ⟨h,by simp,fun a ha b hb=>?_⟩
  simp at hb;subst hb
  exact fun e=>hs (e▸ha)
def lookD (z:List D) (s:St):Sp→D
 | []=>.agg z
 | p::r=>if s=p.1 then .agg (rc p.2) else lookD z s r
theorem o_va (rc:Rat→List D) (hrc:∀q,(rc q).length=3) (s:St) (l:Sp) (z:List D):mlook [0,0,1] 3 true z (stD s) (spD rc l)=some (lookD rc z s l):=by
 unfold mlook
 have hn:(spD rc l).length/([0,0,1].length+3)=l.length:=by rw [o_v5 rc hrc];simp
 rw [hn,o_v6 rc hrc]
 simp only [Option.map_some,Option.some.injEq]
 have key:∀l:Sp,(match idxQ s l with
   | some i=>glD true (((spD rc l).drop (i*([0,0,1].length+3)+[0,0,1].length)).take 3)
   | none=>glD true z)=lookD rc z s l:=by
  intro l
  induction l with
  | nil=>simp [idxQ,glD,lookD]
  | cons p l ih =>
   by_cases h:s=p.1
   ·have e1:((spD rc (p::l)).drop 3).take 3=rc p.2:=by
     rw [spD,List.flatMap_cons,List.append_assoc,List.drop_append,List.drop_eq_nil_of_le (by simp),List.nil_append]
     simp [hrc]
    simp [idxQ,h,lookD,glD,e1]
   ·have e2:(spD rc (p::l)).drop 6=spD rc l:=by
     rw [spD,List.flatMap_cons,List.drop_append,List.drop_eq_nil_of_le (by simp [hrc]),List.nil_append]
     simp [hrc,spD]
    rw [lookD,if_neg h,←ih]
    simp only [idxQ,if_neg h]
    cases hi:idxQ s l with
    | none=>rfl
    | some i =>
     simp only [Option.map_some]
     have:(i+1)*([0,0,1].length+3)+[0,0,1].length=6+(i*([0,0,1].length+3)+[0,0,1].length):=by simp;omega
     rw [this,←List.drop_drop,e2]
 exact key l
theorem o_vb (rc:Rat→List D) (hrc:∀q,(rc q).length=3) (s:St) (l:Sp) (q:Rat):mset [0,0,1] 3 (stD s) (rc q) (spD rc l)=some (spD rc (setQ l s q)):=by
 unfold mset
 have hn:(spD rc l).length/([0,0,1].length+3)=l.length:=by rw [o_v5 rc hrc];simp
 rw [hn,o_v6 rc hrc]
 simp only [Option.map_some,Option.some.injEq]
 have key:∀l:Sp,(match idxQ s l with
   | some i=>(spD rc l).take (i*([0,0,1].length+3))++(stD s++rc q)++(spD rc l).drop ((i+1)*([0,0,1].length+3))
   | none=>spD rc l++(stD s++rc q))=spD rc (setQ l s q):=by
  intro l
  induction l with
  | nil=>simp [idxQ,setQ,spD]
  | cons p l ih =>
   have e2:(spD rc (p::l)).drop 6=spD rc l:=by
    rw [spD,List.flatMap_cons,List.drop_append,List.drop_eq_nil_of_le (by simp [hrc]),List.nil_append]
    simp [hrc,spD]
   have e3:spD rc (p::l)=(stD p.1++rc p.2)++spD rc l:=by rw [spD,List.flatMap_cons];rfl
   by_cases h:s=p.1
   ·simp only [idxQ,if_pos h,setQ]
    simp only [Nat.zero_mul,List.take_zero,Nat.zero_add,Nat.one_mul,List.nil_append]
    rw [show [0,0,1].length+3=6 from rfl,e2]
    rw [show spD rc ((s,q)::l)=(stD s++rc q)++spD rc l by rw [spD,List.flatMap_cons];rfl]
   ·simp only [idxQ,if_neg h,setQ]
    rw [show spD rc (p::setQ l s q)=(stD p.1++rc p.2)++spD rc (setQ l s q) by rw [spD,List.flatMap_cons];rfl,←ih]
    have hl6:(stD p.1++rc p.2).length=6:=by simp [hrc]
    cases hi:idxQ s l with
    | none=>simp only [Option.map_none];rw [e3];simp
    | some i =>
     simp only [Option.map_some]
     rw [show [0,0,1].length+3=6 from rfl]
     have t1:(spD rc (p::l)).take ((i+1)*6)=(stD p.1++rc p.2)++(spD rc l).take (i*6):=by
      rw [e3,List.take_append,List.take_of_length_le (by omega),hl6,show (i+1)*6-6=i*6 by omega]
     have t2:(spD rc (p::l)).drop ((i+1+1)*6)=(spD rc l).drop ((i+1)*6):=by
      rw [show (i+1+1)*6=6+(i+1)*6 by omega,←List.drop_drop,e2]
     rw [t1,t2]
     simp
 exact key l
end
end
section
open Go.RowKit
def addQ (l:Sp) (s:St) (x:Rat):Sp:=setQ l s (getQ l s+x)
def exQ (g:St→Rat):Sp→Rat
 | []=>0
 | p::l=>p.2*g p.1+exQ g l
def Uq (l:Sp):Prop:=(l.map (·.1)).Nodup
theorem o_vc (g:St→Rat) (s:St) (q:Rat):∀l:Sp,Uq l→exQ g (setQ l s q)=exQ g l-getQ l s*g s+q*g s
 | [],_=>by simp only [setQ,exQ,getQ];grind
 | p::r,h=>by
  have h':Uq r:=by unfold Uq at h ⊢;simp at h;exact h.2
  unfold setQ getQ
  split
  ·rename_i e
   simp only [exQ]
   rw [e];grind
  ·simp only [exQ]
   rw [o_vc g s q r h'];grind
theorem o_vd {s:St} {q:Rat} {l:Sp} (h:Uq l):Uq (addQ l s q):=o_v9 h
theorem o_ve (g:St→Rat) (s:St) (q:Rat) (l:Sp) (h:Uq l):exQ g (addQ l s q)=exQ g l+q*g s:=by
 unfold addQ;rw [o_vc g s _ l h];grind
theorem o_vf (g:St→Rat) {l k:Sp} (h:l.Perm k):exQ g l=exQ g k:=by
 induction h with
 | nil=>rfl
 | cons x _ ih=>simp only [exQ,ih]
 | swap x y l=>simp only [exQ];grind
 | trans _ _ h1 h2=>rw [h1,h2]
theorem o_vg (g:St→Rat) (l k:Sp):exQ g (l++k)=exQ g l+exQ g k:=by
 induction l with
 | nil=>simp only [List.nil_append,exQ];grind
 | cons p l ih=>simp only [List.cons_append,exQ,ih];grind
theorem o_vh (g:St→Rat) (l:Sp):exQ g (l.filter fun p=>decide (p.2≠0))=exQ g l:=by
 induction l with
 | nil=>rfl
 | cons p l ih =>
  rw [List.filter_cons]
  split
  ·simp only [exQ,ih]
  ·rename_i h
   have:p.2=0:=by simpa using h
   simp only [exQ,ih,this];grind
def ltS (s t:St):Bool:=decide (s.1<t.1) || (decide (s.1=t.1)&&(decide (s.2.1<t.2.1) || (decide (s.2.1=t.2.1)&&(!s.2.2&&t.2.2))))
theorem o_vi (s:St):ltS s s=false:=by unfold ltS;simp
theorem o_vj {s t u:St} (h1:ltS s t=true) (h2:ltS t u=true):ltS s u=true:=by
 obtain ⟨a,b,c⟩:=s;obtain ⟨a',b',c'⟩:=t;obtain ⟨a2,b2,c2⟩:=u
 unfold ltS at *
 simp only [Bool.or_eq_true,Bool.and_eq_true,decide_eq_true_eq,Bool.not_eq_true'] at *
 rcases h1 with h1 | ⟨h1,h1' | ⟨h1',h3,h4⟩⟩<;>rcases h2 with h2 | ⟨h2,h2' | ⟨h2',h5,h6⟩⟩<;>first | (left;omega) | (right;refine ⟨by omega,?_⟩;first | (left;omega) | (right;exact ⟨by omega,by assumption,by assumption⟩))
theorem o_vk (s t:St):ltS s t=true∨s=t∨ltS t s=true:=by
 obtain ⟨a,b,c⟩:=s;obtain ⟨a',b',c'⟩:=t
 unfold ltS
 simp only [Bool.or_eq_true,Bool.and_eq_true,decide_eq_true_eq,Bool.not_eq_true',Prod.mk.injEq]
 rcases Nat.lt_trichotomy a a' with h | h | h
 ·left;left;exact h
 ·rcases Nat.lt_trichotomy b b' with h2 | h2 | h2
  ·left;right;exact ⟨h,.inl h2⟩
  ·cases c<;>cases c'<;>simp [h,h2]
  ·right;right;right;exact ⟨h.symm,.inl h2⟩
 ·right;right;left;exact h
def leP (p q:St×Rat):Bool:=!(ltS q.1 p.1)
theorem o_vl (a b c:St×Rat) (h1:leP a b=true) (h2:leP b c=true):leP a c=true:=by
 unfold leP at *
 simp only [Bool.not_eq_true'] at *
 cases h:ltS c.1 a.1 with
 | false=>rfl
 | true =>
  rcases o_vk b.1 c.1 with h3 | h3 | h3
  ·rw [o_vj h3 h] at h1;cases h1
  ·rw [h3,h] at h1;cases h1
  ·rw [h3] at h2;cases h2
theorem o_vm (a b:St×Rat):leP a b || leP b a:=by
 unfold leP
 rcases o_vk a.1 b.1 with h | h | h
 ·have:ltS b.1 a.1=false:=by
   cases h2:ltS b.1 a.1 with
   | false=>rfl
   | true=>have:=o_vj h h2;rw [o_vi] at this;cases this
  simp [this]
 ·simp [h,o_vi]
 ·have:ltS a.1 b.1=false:=by
   cases h2:ltS a.1 b.1 with
   | false=>rfl
   | true=>have:=o_vj h h2;rw [o_vi] at this;cases this
  simp [this]
def nzQ (l:Sp):Sp:=l.filter fun p=>decide (p.2≠0)
def atQ (l:Sp):Sp:=(nzQ l).mergeSort leP
theorem o_vn (l:Sp):(atQ l).Perm (nzQ l):=List.mergeSort_perm _ _
theorem o_vo (g:St→Rat) (l:Sp):exQ g (atQ l)=exQ g l:=by rw [o_vf g (o_vn l)];exact o_vh g l
theorem o_vp {l:Sp} (h:Uq l):Uq (nzQ l):=by
 unfold Uq nzQ at *
 exact List.Sublist.nodup ((List.filter_sublist (l:=l)).map _) h
theorem o_vq {l:Sp} (h:Uq l):Uq (atQ l):=by
 unfold Uq
 exact ((o_vn l).map _).nodup_iff.2 (o_vp h)
theorem o_vr {a b:St×Rat}:∀{l:Sp},Uq l→a∈l→b∈l→a.1=b.1→a=b
 | [],_,h,_,_=>by cases h
 | p::l,hu,ha,hb,e=>by
  unfold Uq at hu
  rw [List.map_cons,List.nodup_cons] at hu
  rcases List.mem_cons.1 ha with h1 | h1<;>rcases List.mem_cons.1 hb with h2 | h2
  ·rw [h1,h2]
  ·exact absurd (show p.1∈l.map (·.1) from List.mem_map.2 ⟨b,h2,by rw [←e,h1]⟩) hu.1
  ·exact absurd (show p.1∈l.map (·.1) from List.mem_map.2 ⟨a,h1,by rw [e,h2]⟩) hu.1
  ·exact o_vr hu.2 h1 h2 e
theorem o_vs {l k:Sp} (hu:Uq l) (hp:k.Perm (nzQ l)) (hs:k.Pairwise fun a b=>ltS a.1 b.1=true):k=atQ l:=by
 have h2:(atQ l).Pairwise fun a b=>leP a b=true:=List.pairwise_mergeSort o_vl o_vm _
 refine List.Perm.eq_of_pairwise (le:=fun a b=>leP a b=true) ?_ (hs.imp ?_) h2 (hp.trans (o_vn l).symm)
 ·intro a b ha hb h3 h4
  have ha':a∈nzQ l:=hp.mem_iff.1 ha
  have hb':b∈nzQ l:=(o_vn l).mem_iff.1 hb
  have:a.1=b.1:=by
   unfold leP at h3 h4
   rcases o_vk a.1 b.1 with h | h | h
   ·rw [h] at h4;simp at h4
   ·exact h
   ·rw [h] at h3;simp at h3
  exact o_vr (o_vp hu) ha' hb' this
 ·intro a b h
  unfold leP
  cases h2:ltS b.1 a.1 with
  | false=>rfl
  | true=>have:=o_vj h h2;rw [o_vi] at this;cases this
theorem o_vt (s:St):∀l:Sp,Uq l→getQ l s=exQ (fun t=>if t=s then 1 else 0) l
 | [],_=>rfl
 | p::r,h=>by
  have h':Uq r:=by unfold Uq at h ⊢;simp at h;exact h.2
  unfold getQ exQ
  split
  ·rename_i e
   have hz:exQ (fun t=>if t=s then (1:Rat) else 0) r=0:=by
    rw [←o_vt s r h']
    have hn:s∉r.map (·.1):=by unfold Uq at h;rw [List.map_cons,List.nodup_cons] at h;rw [e];exact h.1
    clear h h'
    induction r with
    | nil=>rfl
    | cons q r ih =>
     simp only [List.map_cons,List.mem_cons,not_or] at hn
     unfold getQ
     rw [if_neg hn.1]
     exact ih hn.2
   rw [hz,if_pos e.symm];grind
  ·rename_i e
   rw [o_vt s r h',if_neg fun e'=>e e'.symm];grind
theorem o_vu (s:St) {l:Sp} (h:Uq l):getQ (atQ l) s=getQ l s:=by
 rw [o_vt s _ (o_vq h),o_vt s _ h,o_vo]

def innQ (q:Rat) (out l:Sp):Sp:=l.foldl (fun o b=>addQ o b.1 (q*b.2)) out
def timesQ (next:St→Sp) (l:Sp):Sp:=(atQ l).foldl (fun out a=>innQ a.2 out (atQ (next a.1))) []
def eitQ (x:Rat) (s o:St):Sp:=addQ (addQ [] s x) o (1-x)
def stepQ (top:Nat) (c:Nat→Rat) (s:St):Sp:=if s.1=top then [((s.1,s.2.1,true),1)] else eitQ (c s.1) (s.1+1,s.2) s
def ofQ (next:St→Sp) (s:St):Nat→Sp
 | 0=>[(s,1)]
 | n+1=>timesQ next (ofQ next s n)
theorem o_vv (g:St→Rat) (q:Rat):∀(l out:Sp),Uq out→Uq (innQ q out l)∧exQ g (innQ q out l)=exQ g out+q*exQ g l
 | [],out,h=>⟨h,by simp only [innQ,List.foldl_nil,exQ];grind⟩
 | b::l,out,h=>by
  obtain ⟨h1,h2⟩:=o_vv g q l (addQ out b.1 (q*b.2)) (o_vd h)
  refine ⟨h1,?_⟩
  show exQ g (innQ q (addQ out b.1 (q*b.2)) l)=_
  rw [h2,o_ve g _ _ _ h]
  simp only [exQ];grind
theorem o_vw (g:St→Rat) (next:St→Sp):∀(l out:Sp),Uq out→Uq (l.foldl (fun out a=>innQ a.2 out (atQ (next a.1))) out)∧exQ g (l.foldl (fun out a=>innQ a.2 out (atQ (next a.1))) out)=exQ g out+exQ (fun s=>exQ g (next s)) l
 | [],out,h=>⟨h,by simp only [List.foldl_nil,exQ];grind⟩
 | a::l,out,h=>by
  obtain ⟨h0,h3⟩:=o_vv g a.2 (atQ (next a.1)) out h
  obtain ⟨h1,h2⟩:=o_vw g next l (innQ a.2 out (atQ (next a.1))) h0
  refine ⟨h1,?_⟩
  show exQ g (l.foldl (fun out a=>innQ a.2 out (atQ (next a.1))) (innQ a.2 out (atQ (next a.1))))=_
  rw [h2,h3,o_vo]
  simp only [exQ];grind
theorem o_vx (next:St→Sp) (l:Sp):Uq (timesQ next l):=(o_vw (fun _=>0) next (atQ l) [] (by simp [Uq])).1
theorem o_vy (g:St→Rat) (next:St→Sp) (l:Sp):exQ g (timesQ next l)=exQ (fun s=>exQ g (next s)) l:=by
 have h:=(o_vw g next (atQ l) [] (by simp [Uq])).2
 rw [o_vo] at h
 have e:exQ g []=0:=rfl
 rw [e] at h
 unfold timesQ
 rw [h];grind
theorem o_vz (next:St→Sp) (s:St):∀n,Uq (ofQ next s n)
 | 0=>by simp [ofQ,Uq]
 | n+1=>o_vx _ _
theorem o_w0 (g:St→Rat) (x:Rat) (s o:St):Uq (eitQ x s o)∧exQ g (eitQ x s o)=x*g s+(1-x)*g o:=by
 have h0:Uq ([]:Sp):=by simp [Uq]
 refine ⟨o_vd (o_vd h0),?_⟩
 unfold eitQ
 rw [o_ve g _ _ _ (o_vd h0),o_ve g _ _ _ h0]
 simp only [exQ];grind
theorem o_w1 (g:St→Rat) (top:Nat) (c:Nat→Rat) (s:St):Uq (stepQ top c s)∧exQ g (stepQ top c s)=if s.1=top then g (s.1,s.2.1,true) else c s.1*g (s.1+1,s.2)+(1-c s.1)*g s:=by
 unfold stepQ
 split
 ·refine ⟨by simp [Uq],?_⟩
  simp only [exQ];grind
 ·exact o_w0 g _ _ _
def okQ (top:Nat) (s:St):Prop:=s.1≤top∧s.2.1=0∧(s.2.2=true→s.1=top)
def oklQ (top:Nat) (l:Sp):Prop:=∀p∈l,okQ top p.1∧0≤p.2
theorem o_w2 {l:Sp} {s:St} {q:Rat} {p:St×Rat} (h:p∈setQ l s q):p∈l∨p=(s,q):=by
 induction l with
 | nil=>simp [setQ] at h;exact .inr h
 | cons r l ih =>
  unfold setQ at h
  split at h
  ·rcases List.mem_cons.1 h with h | h
   ·exact .inr h
   ·exact .inl (by simp [h])
  ·rcases List.mem_cons.1 h with h | h
   ·exact .inl (by simp [h])
   ·exact (ih h).imp (fun h=>by simp [h]) id
theorem o_w3 {top:Nat} {l:Sp} (h:oklQ top l) (s:St):0≤getQ l s:=by
 induction l with
 | nil=>exact Rat.le_refl
 | cons p l ih =>
  unfold getQ
  split
  ·exact (h p (by simp)).2
  ·exact ih fun q hq=>h q (by simp [hq])
theorem o_w4 {top:Nat} {l:Sp} (h:oklQ top l) {s:St} {q:Rat} (hs:okQ top s) (hq:0≤q):oklQ top (addQ l s q):=by
 intro p hp
 rcases o_w2 hp with hp | rfl
 ·exact h p hp
 ·refine ⟨hs,?_⟩
  have:=o_w3 h s
  show 0≤getQ l s+q
  grind
theorem o_w5 {top:Nat} {l:Sp} (h:oklQ top l):oklQ top (atQ l):=fun p hp=>h p (List.mem_filter.1 ((o_vn l).mem_iff.1 hp)).1
theorem o_w6 {top:Nat} {q:Rat} (hq:0≤q):∀{l out:Sp},oklQ top out→oklQ top l→oklQ top (innQ q out l)
 | [],out,h,_=>h
 | b::l,out,h,hl=>by
  obtain ⟨h1,h2⟩:=hl b (by simp)
  exact o_w6 (out:=addQ out b.1 (q*b.2)) (l:=l) hq (o_w4 h h1 (Rat.mul_nonneg hq h2)) fun p hp=>hl p (by simp [hp])
theorem o_w7 {top:Nat} {next:St→Sp} (hn:∀s,okQ top s→oklQ top (next s)) {l:Sp} (h:oklQ top l):oklQ top (timesQ next l):=by
 have key:∀(k out:Sp),oklQ top out→oklQ top k→oklQ top (k.foldl (fun out a=>innQ a.2 out (atQ (next a.1))) out):=by
  intro k
  induction k with
  | nil=>intro out h _;exact h
  | cons a k ih =>
   intro out ho hk
   obtain ⟨h1,h2⟩:=hk a (by simp)
   exact ih _ (o_w6 h2 ho (o_w5 (hn _ h1))) fun p hp=>hk p (by simp [hp])
 exact key _ _ (fun p hp=>by cases hp) (o_w5 h)
theorem o_w8 {top:Nat} {c:Nat→Rat} (h0:∀k,k<top→0≤c k) (h1:∀k,k<top→c k≤1) {s:St} (hs:okQ top s):oklQ top (stepQ top c s):=by
 obtain ⟨a,b,f⟩:=s
 obtain ⟨s1,s2,s3⟩:=hs
 simp only at s1 s2 s3
 unfold stepQ
 split
 ·rename_i e
  intro p hp
  simp at hp;subst hp
  refine ⟨⟨s1,s2,fun _=>e⟩,?_⟩
  exact (by decide:(0:Rat)≤1)
 ·rename_i e
  have hlt:a<top:=by simp only at e;omega
  have e0:=h0 a hlt
  have e1:=h1 a hlt
  have hf:f=false:=by
   cases f with
   | false=>rfl
   | true=>exact absurd (s3 rfl) (by omega)
  subst hf
  refine o_w4 (o_w4 (fun p hp=>by cases hp) ⟨by simp only;omega,s2,fun h=>by simp at h⟩ e0) ⟨s1,s2,s3⟩ ?_
  show (0:Rat)≤1-c a
  grind
theorem o_w9 {top:Nat} {c:Nat→Rat} (h0:∀k,k<top→0≤c k) (h1:∀k,k<top→c k≤1) {s:St} (hs:okQ top s):∀n,oklQ top (ofQ (stepQ top c) s n)
 | 0=>fun p hp=>by
  simp [ofQ] at hp;subst hp
  exact ⟨hs,(by decide:(0:Rat)≤1)⟩
 | n+1=>o_w7 (fun s hs=>o_w8 h0 h1 hs) (o_w9 h0 h1 hs n)
theorem o_wa {top:Nat} {c:Nat→Rat} (s:St):∀n,exQ (fun _=>1) (ofQ (stepQ top c) s n)=1
 | 0=>by simp only [ofQ,exQ];grind
 | n+1=>by
  show exQ (fun _=>1) (timesQ (stepQ top c) (ofQ (stepQ top c) s n))=1
  rw [o_vy]
  have:(fun t=>exQ (fun _=>(1:Rat)) (stepQ top c t))=fun _=>1:=by
   funext t
   rw [(o_w1 (fun _=>1) top c t).2]
   split
   ·rfl
   ·grind
  rw [this,o_wa s n]
end
section
structure CP (α:Type) where
 O:List Bool→Option (α×Nat)
 D:List Bool→(α→Rat)→Rat
 o2:∀x a c,O x=some (a,c)→c≤x.length∧∀b,O (x++[b])=some (a,c)
 o3:∀x b a c,O x=none→O (x++[b])=some (a,c)→c=x.length+1
 d1:∀x a c g,O x=some (a,c)→D x g=g a
 d2:∀x g,O x=none→2*D x g=D (x++[false]) g+D (x++[true]) g
 d3:∀x g,(∀a,0≤g a∧g a≤1)→0≤D x g∧D x g≤1
namespace CP
def E {α:Type} (f:CP α) (g:α→Rat):Rat:=f.D [] g
def pure {α:Type} (a:α):CP α where
 O _:=some (a,0)
 D _ g:=g a
 o2 x a' c h:=by cases h;exact ⟨Nat.zero_le _,fun _=>rfl⟩
 o3 x b a' c h:=by cases h
 d1 x a' c g h:=by cases h;rfl
 d2 x g h:=by cases h
 d3 x g h:=h a
def coin:CP Bool where
 O x:=match x with | []=>none | b::_=>some (b,1)
 D x g:=match x with | []=>(g false+g true)/2 | b::_=>g b
 o2 x a c h:=by
  cases x with
  | nil=>cases h
  | cons b x=>cases h;exact ⟨by simp,fun _=>rfl⟩
 o3 x b a c h h2:=by
  cases x with
  | nil=>cases h2;rfl
  | cons b x=>cases h
 d1 x a c g h:=by
  cases x with
  | nil=>cases h
  | cons b x=>cases h;rfl
 d2 x g h:=by
  cases x with
  | nil=>simp only [List.nil_append];grind
  | cons b x=>cases h
 d3 x g h:=by
  have h1:=h false
  have h2:=h true
  cases x with
  | nil=>simp only;constructor<;>grind
  | cons b x=>exact h b
def bindO {α β:Type} (f:CP α) (k:α→CP β) (x:List Bool):Option (β×Nat):=match f.O x with
 | some (a,c)=>((k a).O (x.drop c)).map fun r=>(r.1,c+r.2)
 | none=>none
def bindD {α β:Type} (f:CP α) (k:α→CP β) (x:List Bool) (g:β→Rat):Rat:=match f.O x with
 | some (a,c)=>(k a).D (x.drop c) g
 | none=>f.D x fun a=>(k a).D [] g
theorem o_wb {α β:Type} (f:CP α) (k:α→CP β) (x:List Bool) (g:β→Rat) (b:Bool) (h:f.O x=none):bindD f k (x++[b]) g=f.D (x++[b]) fun a=>(k a).D [] g:=by
 unfold bindD
 split
 ·rename_i a c h2
  rw [f.d1 _ _ _ _ h2,f.o3 _ _ _ _ h h2,List.drop_of_length_le (by simp)]
 ·rfl
def bind {α β:Type} (f:CP α) (k:α→CP β):CP β where
 O:=bindO f k
 D:=bindD f k
 o2 x r n h:=by
  unfold bindO at h ⊢
  split at h
  ·rename_i a c h1
   obtain ⟨hc,hb⟩:=f.o2 _ _ _ h1
   obtain ⟨⟨r',c'⟩,h2,h3⟩:=Option.map_eq_some_iff.1 h
   cases h3
   obtain ⟨hc2,hb2⟩:=(k a).o2 _ _ _ h2
   rw [List.length_drop] at hc2
   refine ⟨by simp only;omega,fun b=>?_⟩
   rw [hb b]
   simp only
   rw [List.drop_append_of_le_length hc,hb2 b]
   rfl
  ·cases h
 o3 x b r n h h':=by
  unfold bindO at h h'
  cases h1:f.O x with
  | some ac =>
   obtain ⟨a,c⟩:=ac
   rw [h1] at h
   obtain ⟨hc,hb⟩:=f.o2 _ _ _ h1
   rw [hb b] at h'
   simp only at h h'
   rw [List.drop_append_of_le_length hc] at h'
   obtain ⟨⟨r',c'⟩,h2,h3⟩:=Option.map_eq_some_iff.1 h'
   cases h3
   have:=(k a).o3 _ _ _ _ (Option.map_eq_none_iff.1 h) h2
   rw [List.length_drop] at this
   simp only;omega
  | none =>
   cases h2:f.O (x++[b]) with
   | none=>rw [h2] at h';cases h'
   | some ac =>
    obtain ⟨a,c⟩:=ac
    rw [h2] at h'
    simp only at h'
    have hc:=f.o3 _ _ _ _ h1 h2
    rw [List.drop_of_length_le (by simp;omega)] at h'
    obtain ⟨⟨r',c'⟩,h3,h4⟩:=Option.map_eq_some_iff.1 h'
    cases h4
    have:=((k a).o2 _ _ _ h3).1
    simp only [List.length_nil] at this
    simp only;omega
 d1 x r n g h:=by
  unfold bindO at h
  unfold bindD
  split at h
  ·rename_i a c h1
   obtain ⟨⟨r',c'⟩,h2,h3⟩:=Option.map_eq_some_iff.1 h
   cases h3
   exact (k a).d1 _ _ _ _ h2
  ·cases h
 d2 x g h:=by
  unfold bindO at h
  cases h1:f.O x with
  | some ac =>
   obtain ⟨a,c⟩:=ac
   rw [h1] at h
   obtain ⟨hc,hb⟩:=f.o2 _ _ _ h1
   unfold bindD
   rw [h1,hb false,hb true]
   simp only
   rw [List.drop_append_of_le_length hc,List.drop_append_of_le_length hc]
   exact (k a).d2 _ _ (Option.map_eq_none_iff.1 h)
  | none =>
   rw [o_wb f k x g false h1,o_wb f k x g true h1,←f.d2 _ _ h1]
   unfold bindD
   rw [h1]
 d3 x g h:=by
  unfold bindD
  split
  ·exact (k _).d3 _ _ h
  ·exact f.d3 _ _ fun a=>(k a).d3 _ _ h
theorem bind_E {α β:Type} (f:CP α) (k:α→CP β) (g:β→Rat):(f.bind k).E g=f.E fun a=>(k a).E g:=by
 show bindD f k [] g=_
 unfold bindD
 split
 ·rename_i a c h
  have:=(f.o2 _ _ _ h).1
  simp only [List.length_nil,Nat.le_zero] at this
  subst this
  exact (f.d1 _ _ _ (fun a=>(k a).E g) h).symm
 ·rfl
end CP
end
section
theorem CP.bind_O {α β:Type} (f:CP α) (k:α→CP β) {x:List Bool} {a:α} {c:Nat} (h:f.O x=some (a,c)):(f.bind k).O x=((k a).O (x.drop c)).map fun r=>(r.1,c+r.2):=by
 show CP.bindO f k x=_
 unfold CP.bindO
 rw [h]
theorem CP.bind_Z {α β:Type} (f:CP α) (k:α→CP β) {x:List Bool} (h:f.O x=none):(f.bind k).O x=none:=by
 show CP.bindO f k x=_
 unfold CP.bindO
 rw [h]
def Runs {α:Type} (F:List Bool→Nat→Bool→α×Int×Nat×Bool) (f:CP α):Prop:=∀cs p,p≤cs.length→match f.O (cs.drop p) with
 | some (a,c)=>F cs p false=(a,0,p+c,false)
 | none=>(F cs p false).2.1=8
def flipR (cs:List Bool) (p:Nat) (d:Bool):Bool×Int×Nat×Bool:=(flipB cs p d,flipE cs p d,flipP cs p d,flipD cs p d)
theorem o_wc {cs:List Bool} {p:Nat} (hp:p=cs.length):flipR cs p false=(false,8,p,true):=by
 simp [flipR,flipB,flipE,flipP,flipD,hp]
theorem o_wd {cs:List Bool} {p:Nat} {b:Bool} {x:List Bool} (h:cs.drop p=b::x):flipR cs p false=(b,0,p+1,false)∧p<cs.length∧cs.drop (p+1)=x:=by
 have hl:=congrArg List.length h
 rw [List.length_drop,List.length_cons] at hl
 have hp:p<cs.length:=by omega
 have hn:¬p=cs.length:=by omega
 have h2:=List.drop_eq_getElem_cons hp
 rw [h] at h2
 obtain ⟨h3,h4⟩:=List.cons.inj h2
 refine ⟨?_,hp,h4.symm⟩
 simp [flipR,flipB,flipE,flipP,flipD,hn,h3,List.getElem?_eq_getElem hp]
theorem o_we {cs:List Bool} {p:Nat} (hp:p≤cs.length) (h:cs.drop p=[]):p=cs.length:=by
 have hl:=congrArg List.length h
 rw [List.length_drop,List.length_nil] at hl
 omega
def halfP:Nat→CP Bool
 | 0=>.pure true
 | k+1=>CP.coin.bind fun b=>if b then halfP k else .pure false
theorem o_wf:∀k,Runs (fun cs p d=>halfR cs k p d) (halfP k)
 | 0=>fun cs p hp=>rfl
 | k+1=>fun cs p hp=>by
  have hF:halfR cs (k+1) p false=if (flipR cs p false).1 then halfR cs k (flipR cs p false).2.2.1 (flipR cs p false).2.2.2 else (false,(flipR cs p false).2):=rfl
  simp only [halfP,hF]
  cases hx:cs.drop p with
  | nil =>
   rw [o_wc (o_we hp hx)]
   rfl
  | cons b x =>
   obtain ⟨h1,h2,h3⟩:=o_wd hx
   rw [h1]
   cases b with
   | false=>rfl
   | true =>
    have ih:=o_wf k cs (p+1) h2
    rw [h3] at ih
    rw [CP.bind_O CP.coin _ (x:=true::x) (a:=true) (c:=1) rfl]
    simp only [if_true,List.drop_succ_cons,List.drop_zero]
    cases ho:(halfP k).O x with
    | none=>rw [ho] at ih;exact ih
    | some ac =>
     obtain ⟨a,c⟩:=ac
     rw [ho] at ih
     simp only [Option.map_some] at ih ⊢
     rw [ih,Nat.add_assoc]
theorem o_wg (g:Bool→Rat):∀k,(halfP k).E g=mkRat 1 (2^k)*g true+(1-mkRat 1 (2^k))*g false
 | 0=>by
  have e:mkRat 1 (2^0)=1:=rfl
  rw [e]
  show g true=_
  grind
 | k+1=>by
  have ih:=o_wg g k
  have e:2*mkRat 1 (2^(k+1))=mkRat 1 (2^k):=by
   have hp:((2^k:Nat):Rat)≠0:=by
    have:=Nat.two_pow_pos k
    exact_mod_cast (by omega:2^k≠0)
   rw [Rat.mkRat_eq_div,Rat.mkRat_eq_div,Nat.pow_succ,Rat.natCast_mul]
   have e2:((2:Nat):Rat)=2:=rfl
   have e3:((1:Int):Rat)=1:=rfl
   rw [e2,e3]
   generalize ((2^k:Nat):Rat)=y at *
   grind
  show (CP.coin.bind fun b=>if b then halfP k else .pure false).E g=_
  rw [CP.bind_E]
  show ((CP.pure false).E g+(halfP k).E g)/2=_
  rw [ih]
  show (g false+_)/2=_
  generalize mkRat 1 (2^(k+1))=y at *
  rw [←e]
  grind
end
section
def rnQ (q r:Nat):Nat:=if q≤r+r then r+r-q else r+r
def ratO (q:Nat):List Bool→Nat→Option (Bool×Nat)
 | [],r=>if r<q then none else some (true,0)
 | b::x,r=>if r<q then (if b≠decide (q≤r+r)∨rnQ q r=0 then some (decide (q≤r+r)&&!b,1) else (ratO q x (rnQ q r)).map fun a=>(a.1,a.2+1)) else some (true,0)
def ratB (q r:Nat) (g:Bool→Rat):Rat:=(r:Rat)/q*g true+(1-(r:Rat)/q)*g false
def ratD (q:Nat):List Bool→Nat→(Bool→Rat)→Rat
 | [],r,g=>if r<q then ratB q r g else g true
 | b::x,r,g=>if r<q then (if b≠decide (q≤r+r)∨rnQ q r=0 then g (decide (q≤r+r)&&!b) else ratD q x (rnQ q r) g) else g true
theorem o_wh {q r:Nat} (h:r<q):rnQ q r<q:=by unfold rnQ;split<;>omega
theorem o_wi (q:Nat):∀(x:List Bool) (r:Nat) (a:Bool) (c:Nat),ratO q x r=some (a,c)→c≤x.length∧∀b,ratO q (x++[b]) r=some (a,c)
 | [],r,a,c,h=>by
  unfold ratO at h
  split at h
  ·cases h
  ·rename_i hr
   cases h
   exact ⟨Nat.zero_le _,fun b=>by simp [ratO,hr]⟩
 | b'::x,r,a,c,h=>by
  unfold ratO at h
  rw [List.length_cons]
  split at h
  ·rename_i hr
   split at h
   ·rename_i hd
    cases h
    exact ⟨by omega,fun b=>by rw [List.cons_append];unfold ratO;rw [if_pos hr,if_pos hd]⟩
   ·rename_i hd
    obtain ⟨⟨a',c'⟩,h1,h2⟩:=Option.map_eq_some_iff.1 h
    cases h2
    obtain ⟨h3,h4⟩:=o_wi q x _ _ _ h1
    exact ⟨by simp only;omega,fun b=>by rw [List.cons_append];unfold ratO;rw [if_pos hr,if_neg hd,h4 b];rfl⟩
  ·rename_i hr
   cases h
   exact ⟨by omega,fun b=>by rw [List.cons_append];unfold ratO;rw [if_neg hr]⟩
theorem o_wj (q:Nat):∀(x:List Bool) (b:Bool) (r:Nat) (a:Bool) (c:Nat),ratO q x r=none→ratO q (x++[b]) r=some (a,c)→c=x.length+1
 | [],b,r,a,c,h,h'=>by
  unfold ratO at h
  split at h
  ·rename_i hr
   rw [List.nil_append] at h'
   unfold ratO at h'
   rw [if_pos hr] at h'
   split at h'
   ·cases h';rfl
   ·obtain ⟨⟨a',c'⟩,h1,h2⟩:=Option.map_eq_some_iff.1 h'
    unfold ratO at h1
    rw [if_pos (o_wh hr)] at h1
    cases h1
  ·cases h
 | b'::x,b,r,a,c,h,h'=>by
  rw [List.cons_append] at h'
  unfold ratO at h h'
  split at h
  ·rename_i hr
   rw [if_pos hr] at h'
   split at h
   ·cases h
   ·rename_i hd
    rw [if_neg hd] at h'
    obtain ⟨⟨a',c'⟩,h1,h2⟩:=Option.map_eq_some_iff.1 h'
    cases h2
    have:=o_wj q x b _ _ _ (Option.map_eq_none_iff.1 h) h1
    simp only [List.length_cons];omega
  ·cases h
theorem o_wk (q:Nat):∀(x:List Bool) (r:Nat) (a:Bool) (c:Nat) (g:Bool→Rat),ratO q x r=some (a,c)→ratD q x r g=g a
 | [],r,a,c,g,h=>by
  unfold ratO at h
  unfold ratD
  split at h
  ·cases h
  ·rename_i hr
   cases h
   rw [if_neg hr]
 | b::x,r,a,c,g,h=>by
  unfold ratO at h
  unfold ratD
  split at h
  ·rename_i hr
   rw [if_pos hr]
   split at h
   ·rename_i hd
    cases h
    rw [if_pos hd]
   ·rename_i hd
    rw [if_neg hd]
    obtain ⟨⟨a',c'⟩,h1,h2⟩:=Option.map_eq_some_iff.1 h
    cases h2
    exact o_wk q x _ _ _ g h1
  ·rename_i hr
   cases h
   rw [if_neg hr]
theorem o_wl {q r:Nat} (hr:r<q) (g:Bool→Rat) (b:Bool):ratD q [b] r g=if b=decide (q≤r+r) then ratB q (rnQ q r) g else g (decide (q≤r+r)&&!b):=by
 unfold ratD
 rw [if_pos hr]
 have e0:rnQ q r=0→ratB q (rnQ q r) g=g false:=fun h=>by
  unfold ratB
  rw [h]
  have:((0:Nat):Rat)=0:=rfl
  rw [this,Rat.div_def,Rat.zero_mul]
  grind
 by_cases hb:b=decide (q≤r+r)
 ·rw [if_pos hb]
  by_cases h0:rnQ q r=0
  ·rw [if_pos (.inr h0),e0 h0,←hb]
   cases b<;>rfl
  ·rw [if_neg (by simp [hb,h0])]
   unfold ratD
   rw [if_pos (o_wh hr)]
 ·rw [if_neg hb,if_pos (.inl hb)]
theorem o_wm {q r:Nat} (hr:r<q) (g:Bool→Rat):2*ratB q r g=ratD q [false] r g+ratD q [true] r g:=by
 rw [o_wl hr,o_wl hr]
 have hq:((q:Nat):Rat)≠0:=by
  intro h
  have:q=0:=by exact_mod_cast h
  omega
 by_cases ht:q≤r+r
 ·have e:(rnQ q r:Rat)=r+r-q:=by
   have:rnQ q r+q=r+r:=by unfold rnQ;rw [if_pos ht];omega
   have h2:=congrArg (fun n:Nat=>(n:Rat)) this
   simp only [Rat.natCast_add] at h2
   grind
  simp only [ht,decide_true,Bool.true_and,if_true]
  unfold ratB
  rw [e]
  simp
  grind
 ·have e:(rnQ q r:Rat)=r+r:=by
   have:rnQ q r=r+r:=by unfold rnQ;rw [if_neg ht]
   rw [this,Rat.natCast_add]
  simp only [ht,decide_false,Bool.false_and,if_true]
  unfold ratB
  rw [e]
  simp
  grind
theorem o_wn (q:Nat):∀(x:List Bool) (r:Nat) (g:Bool→Rat),ratO q x r=none→2*ratD q x r g=ratD q (x++[false]) r g+ratD q (x++[true]) r g
 | [],r,g,h=>by
  unfold ratO at h
  split at h
  ·rename_i hr
   rw [List.nil_append,List.nil_append,←o_wm hr]
   unfold ratD
   rw [if_pos hr]
  ·cases h
 | b::x,r,g,h=>by
  unfold ratO at h
  rw [List.cons_append,List.cons_append]
  unfold ratD
  split at h
  ·rename_i hr
   split at h
   ·cases h
   ·rename_i hd
    simp only [if_pos hr,if_neg hd]
    exact o_wn q x _ g (Option.map_eq_none_iff.1 h)
  ·cases h
theorem o_wo {q r:Nat} (hr:r<q) (g:Bool→Rat) (h:∀a,0≤g a∧g a≤1):0≤ratB q r g∧ratB q r g≤1:=by
 have hq:(0:Rat)<(q:Rat):=by
  have:((0:Nat):Rat)<(q:Rat):=Rat.natCast_lt_natCast.2 (by omega)
  simpa using this
 have hc:(r:Rat)/q*q=r:=Rat.div_mul_cancel (Rat.ne_of_gt hq)
 have h0:(0:Rat)≤(r:Rat)/q:=by
  have hl:(0:Rat)≤(r:Rat):=Rat.natCast_nonneg
  refine Rat.not_lt.1 fun hn=>?_
  have:=Rat.mul_lt_mul_of_pos_right hn hq
  grind
 have h1:(r:Rat)/q≤1:=by
  have hl:(r:Rat)<(q:Rat):=Rat.natCast_lt_natCast.2 hr
  refine Rat.not_lt.1 fun hn=>?_
  have:=Rat.mul_lt_mul_of_pos_right hn hq
  grind
 unfold ratB
 generalize (r:Rat)/q=y at *
 have ht:=h true
 have hf:=h false
 have a1:=Rat.mul_nonneg h0 ht.1
 have a2:=Rat.mul_nonneg (show (0:Rat)≤1-y by grind) hf.1
 have a3:=Rat.mul_nonneg h0 (show (0:Rat)≤1-g true by grind)
 have a4:=Rat.mul_nonneg (show (0:Rat)≤1-y by grind) (show (0:Rat)≤1-g false by grind)
 constructor<;>grind
theorem o_wp (q:Nat):∀(x:List Bool) (r:Nat) (g:Bool→Rat),(∀a,0≤g a∧g a≤1)→0≤ratD q x r g∧ratD q x r g≤1
 | [],r,g,h=>by
  unfold ratD
  split
  ·rename_i hr
   exact o_wo hr g h
  ·exact h true
 | b::x,r,g,h=>by
  unfold ratD
  split
  ·split
   ·exact h _
   ·exact o_wp q x _ g h
  ·exact h true
def ratP (q r:Nat):CP Bool where
 O x:=ratO q x r
 D x g:=ratD q x r g
 o2 x a c h:=o_wi q x r a c h
 o3 x b a c h h':=o_wj q x b r a c h h'
 d1 x a c g h:=o_wk q x r a c g h
 d2 x g h:=o_wn q x r g h
 d3 x g h:=o_wp q x r g h
theorem o_wq {q r:Nat} (hr:r<q) (g:Bool→Rat):(ratP q r).E g=ratB q r g:=by
 show ratD q [] r g=_
 unfold ratD
 rw [if_pos hr]
theorem o_wr (q:Nat):∀(f r:Nat) (cs:List Bool) (p:Nat),p≤cs.length→cs.length+1≤f+p→(match ratO q (cs.drop p) r with
 | some (a,c)=>ratioR cs q f r p false=(a,0,p+c,false)
 | none=>(ratioR cs q f r p false).2.1=8)
 | 0,r,cs,p,hp,hf=>by omega
 | f+1,r,cs,p,hp,hf=>by
  have hF:ratioR cs q (f+1) r p false=if r<q then
   if (flipR cs p false).2.1=0 then
    if (flipR cs p false).1≠decide (q≤r+r)∨rnQ q r=0 then (decide (q≤r+r)&&!(flipR cs p false).1,0,(flipR cs p false).2.2.1,(flipR cs p false).2.2.2)
    else ratioR cs q f (rnQ q r) (flipR cs p false).2.2.1 (flipR cs p false).2.2.2
   else (false,(flipR cs p false).2.1,(flipR cs p false).2.2.1,(flipR cs p false).2.2.2)
  else (true,0,p,false):=rfl
  rw [hF]
  by_cases hr:r<q
  ·rw [if_pos hr]
   cases hx:cs.drop p with
   | nil =>
    rw [o_wc (o_we hp hx)]
    simp [ratO,hr]
   | cons b x =>
    obtain ⟨h1,h2,h3⟩:=o_wd hx
    rw [h1]
    simp only [ratO,if_pos hr,if_true]
    by_cases hd:b≠decide (q≤r+r)∨rnQ q r=0
    ·simp only [if_pos hd]
    ·simp only [if_neg hd]
     have ih:=o_wr q f (rnQ q r) cs (p+1) h2 (by omega)
     rw [h3] at ih
     cases ho:ratO q x (rnQ q r) with
     | none=>rw [ho] at ih;exact ih
     | some ac =>
      obtain ⟨a,c⟩:=ac
      rw [ho] at ih
      simp only [Option.map_some] at ih ⊢
      rw [ih]
      simp;omega
  ·rw [if_neg hr]
   have:ratO q (cs.drop p) r=some (true,0):=by
    cases cs.drop p<;>simp [ratO,hr]
   rw [this]
   simp
theorem o_ws (q r:Nat) (h0:r≠0):Runs (fun cs p d=>ratioA cs r q p d) (ratP q r):=fun cs p hp=>by
 have:=o_wr q (cs.length+1-p) r cs p hp (by omega)
 simp only [ratioA,if_neg h0]
 rw [show (ratP q r).O (cs.drop p)=ratO q (cs.drop p) r from rfl]
 cases ho:ratO q (cs.drop p) r with
 | none=>rw [ho] at this;exact this
 | some ac =>
  obtain ⟨a,c⟩:=ac
  rw [ho] at this
  exact this
end
section
theorem o_wt {α β:Type} {F:List Bool→Nat→Bool→α×Int×Nat×Bool} {f:CP α} (hf:Runs F f) {G:α→List Bool→Nat→Bool→β×Int×Nat×Bool} {k:α→CP β} (hk:∀a,Runs (G a) (k a)) {H:List Bool→Nat→Bool→β×Int×Nat×Bool}
  (h1:∀cs p,p≤cs.length→(F cs p false).2.1=0→H cs p false=G (F cs p false).1 cs (F cs p false).2.2.1 (F cs p false).2.2.2)
  (h2:∀cs p,p≤cs.length→(F cs p false).2.1=8→(H cs p false).2.1=8):Runs H (f.bind k):=fun cs p hp=>by
 have hr:=hf cs p hp
 cases ho:f.O (cs.drop p) with
 | none =>
  rw [ho] at hr
  rw [CP.bind_Z f k ho]
  exact h2 cs p hp hr
 | some ac =>
  obtain ⟨a,c⟩:=ac
  rw [ho] at hr
  simp only at hr
  have e:=h1 cs p hp (by rw [hr])
  rw [hr] at e
  simp only at e
  have hc:=(f.o2 _ _ _ ho).1
  rw [List.length_drop] at hc
  have hk2:=hk a cs (p+c) (by omega)
  rw [CP.bind_O f k ho,List.drop_drop,e]
  cases h3:(k a).O (cs.drop (p+c)) with
  | none=>rw [h3] at hk2;exact hk2
  | some bd =>
   obtain ⟨b,d⟩:=bd
   rw [h3] at hk2
   simp only [Option.map_some] at hk2 ⊢
   rw [hk2,Nat.add_assoc]
theorem o_wu {α:Type} (a:α):Runs (fun _ p d=>(a,0,p,d)) (.pure a):=fun cs p hp=>rfl
theorem o_wv (cs:List Bool) (q:Nat):∀(f r p:Nat) (d:Bool),(ratioR cs q f r p d).1=true→(ratioR cs q f r p d).2.1=0
 | 0,r,p,d,h=>rfl
 | f+1,r,p,d,h=>by
  unfold ratioR at h ⊢
  split
  ·rename_i h1
   rw [if_pos h1] at h
   split
   ·rename_i h2
    rw [if_pos h2] at h
    by_cases h3:flipB cs p d≠decide (q≤r+r)∨(if q≤r+r then r+r-q else r+r)=0
    ·rw [if_pos h3]
    ·rw [if_neg h3] at h ⊢
     exact o_wv cs q f _ _ _ h
   ·rename_i h2
    rw [if_neg h2] at h
    cases h
  ·rfl
def powP (q a:Nat):Nat→CP Bool
 | 0=>.pure true
 | k+1=>(ratP q a).bind fun b=>if b then powP q a k else .pure false
theorem o_ww (q a:Nat) (h0:a≠0):∀k,Runs (fun cs p d=>powerR cs a q k p d) (powP q a k)
 | 0=>fun cs p hp=>rfl
 | k+1=>by
  refine o_wt (o_ws q a h0) (G:=fun b cs p d=>if b then powerR cs a q k p d else (false,0,p,d)) (fun b=>?_) (fun cs p hp he=>?_) fun cs p hp he=>?_
  ·cases b with
   | false=>exact o_wu false
   | true=>exact o_ww q a h0 k
  ·show (if _ then _ else _)=_
   cases hb:(ratioA cs a q p false).1 with
   | true=>rfl
   | false =>
    show ratioA cs a q p false=_
    simp only [Bool.false_eq_true,if_false]
    exact Prod.ext hb (Prod.ext he rfl)
  ·cases hb:(ratioA cs a q p false).1 with
   | true =>
    exfalso
    unfold ratioA at hb he
    rw [if_neg h0] at hb he
    rw [o_wv _ _ _ _ _ _ hb] at he
    cases he
   | false =>
    unfold powerR
    rw [hb]
    exact he
theorem o_wx {q a:Nat} (hr:a<q) (g:Bool→Rat):∀k,(powP q a k).E g=((a:Rat)/q)^k*g true+(1-((a:Rat)/q)^k)*g false
 | 0=>by
  show g true=_
  rw [Rat.pow_zero]
  grind
 | k+1=>by
  have ih:=o_wx hr g k
  show ((ratP q a).bind fun b=>if b then powP q a k else .pure false).E g=_
  rw [CP.bind_E,o_wq hr]
  unfold ratB
  show _*(powP q a k).E g+_*g false=_
  rw [ih,Rat.pow_succ]
  generalize (a:Rat)/q=y at *
  grind
end
section
theorem o_wy {g h:St→Rat} (e:∀s,g s=h s) (l:Sp):exQ g l=exQ h l:=by
 have:g=h:=funext e
 rw [this]
theorem o_wz (next:St→Sp):∀(n:Nat) (g:St→Rat) (s:St),exQ g (ofQ next s (n+1))=exQ (fun t=>exQ g (ofQ next t n)) (next s)
 | 0,g,s=>by
  show exQ g (timesQ next [(s,1)])=exQ (fun t=>exQ g [(t,1)]) (next s)
  rw [o_vy]
  have e:∀t:St,exQ g [(t,1)]=g t:=fun t=>by simp only [exQ];grind
  rw [o_wy e]
  simp only [exQ];grind
 | n+1,g,s=>by
  show exQ g (timesQ next (ofQ next s (n+1)))=exQ (fun t=>exQ g (timesQ next (ofQ next t n))) (next s)
  rw [o_vy,o_wz next n (fun t=>exQ g (next t)) s]
  exact o_wy (fun t=>(o_vy g next _).symm) _
def addP (sp:Nat→CP Bool) (top:Nat):Nat→Nat→Bool→CP (Nat×Bool)
 | 0,x,f=>.pure (x,f)
 | n+1,x,f=>if x=top then .pure (x,true) else (sp x).bind fun b=>if f=true∧(if b then x+1 else x)=top then .pure (top,f) else addP sp top n (if b then x+1 else x) f
theorem o_x0 (top:Nat) (c:Nat→Rat) (g:St→Rat):∀n,exQ g (ofQ (stepQ top c) (top,0,true) n)=g (top,0,true)
 | 0=>by simp only [ofQ,exQ];grind
 | n+1=>by
  rw [o_wz,(o_w1 _ top c (top,0,true)).2,if_pos rfl]
  exact o_x0 top c g n
theorem o_x1 {sp:Nat→CP Bool} {top:Nat} {c:Nat→Rat} (hs:∀x,x<top→∀g,(sp x).E g=c x*g true+(1-c x)*g false) (g:Nat×Bool→Rat):∀(n x:Nat) (f:Bool),x≤top→(f=true→x=top)→(addP sp top n x f).E g=exQ (fun s=>g (s.1,s.2.2)) (ofQ (stepQ top c) (x,0,f) n)
 | 0,x,f,hx,hf=>by
  show g (x,f)=_
  simp only [ofQ,exQ];grind
 | n+1,x,f,hx,hf=>by
  rw [o_wz,(o_w1 _ top c (x,0,f)).2]
  unfold addP
  by_cases h:x=top
  ·subst h
   rw [if_pos rfl,if_pos rfl]
   exact (o_x0 x c (fun s=>g (s.1,s.2.2)) n).symm
  ·have hf0:f=false:=by
    cases f with
    | false=>rfl
    | true=>exact absurd (hf rfl) h
   subst hf0
   rw [if_neg h,if_neg h,CP.bind_E,hs x (by omega)]
   have h1:=o_x1 hs g n (x+1) false (by omega) (by simp)
   have h2:=o_x1 hs g n x false hx (by simp)
   simp only [Bool.false_eq_true,false_and,if_false,if_true]
   rw [h1,h2]
def addH (st:List Bool→StepT) (top n x:Nat) (f:Bool) (cs:List Bool) (p:Nat) (d:Bool):(Nat×Bool)×Int×Nat×Bool:=(((addL (st cs) top n x f p d).2.1,(addL (st cs) top n x f p d).2.2.1),(addL (st cs) top n x f p d).1,(addL (st cs) top n x f p d).2.2.2.1,(addL (st cs) top n x f p d).2.2.2.2)
theorem o_x2 {st:List Bool→StepT} {sp:Nat→CP Bool} {top:Nat} (h:∀x,x<top→Runs (fun cs p d=>st cs x p d) (sp x)):∀(n x:Nat) (f:Bool),x≤top→Runs (addH st top n x f) (addP sp top n x f)
 | 0,x,f,hx=>fun cs p hp=>rfl
 | n+1,x,f,hx=>by
  unfold addP
  by_cases hxt:x=top
  ·rw [if_pos hxt]
   intro cs p hp
   show addH st top (n+1) x f cs p false=((x,true),0,p+0,false)
   unfold addH addL
   rw [if_pos hxt]
   rfl
  ·rw [if_neg hxt]
   refine o_wt (h x (by omega)) (G:=fun b cs p d=>if f=true∧(if b then x+1 else x)=top then ((top,f),0,p,d) else addH st top n (if b then x+1 else x) f cs p d) (fun b=>?_) (fun cs p hp he=>?_) fun cs p hp he=>?_
   ·by_cases hb:f=true∧(if b then x+1 else x)=top
    ·simp only [if_pos hb]
     exact o_wu (top,f)
    ·simp only [if_neg hb]
     exact o_x2 h n _ f (by split<;>omega)
   ·unfold addH
    rw [addL,if_neg hxt,if_pos he]
    by_cases hb:f=true∧(if (st cs x p false).1 then x+1 else x)=top
    ·rw [if_pos hb,if_pos hb]
    ·rw [if_neg hb,if_neg hb]
   ·unfold addH
    rw [addL,if_neg hxt,if_neg (by rw [he];decide)]
    exact he
end
section
open Go.RowKit
@[simp] theorem o_x3 (θ:Nat→Nat) (l:List D):V.rens θ (l.map V.d)=l.map V.d:=o_61 θ l
@[simp] theorem o_x4 (n:Nat) (l:List D):V.lowl n (l.map V.d)=true:=o_62 n l
def rcD (q:Rat):List D:=[natW q.num.natAbs,.bool (decide (q.num<0)),natW (q.den-1)]
theorem o_x5 (q:Rat):rD q = .agg (rcD q):=rfl
def zR:List D:=[.nilsl,.bool false,.nilsl]
theorem Sub1.agg2 {l r:List D} (h:Subs (l.map V.d) (r.map V.d)):Sub1 (.d (.agg l)) (.d (.agg r)):=fun m v k=>by
 rw [V.rep_d] at k ⊢
 unfold D.rep at k ⊢
 obtain ⟨vs,h1,h2,h3⟩:=k
 exact ⟨vs,h1,h2,V.reps_map_d.1 (h m vs (V.reps_map_d.2 h3))⟩
theorem o_x6:Sub1 (.d (.agg zR)) (.d (rD 0)):=Sub1.agg2 (Subs.cons Sub1.nil (Subs.cons (Sub1.refl _) (Subs.cons Sub1.nil (Subs.refl _))))
theorem o_x7 (s:St):∀l:Sp,Sub1 (.d (lookD rcD zR s l)) (.d (rD (getQ l s)))
 | []=>o_x6
 | p::r=>by
  unfold lookD getQ
  split
  ·exact Sub1.refl _
  ·exact o_x7 s r
def spO (l:Sp):Ob:=⟨1000391,(spD rcD l).map .d⟩
theorem o_x8 (l:Sp) (s:St) (x:Rat) (h1:RS (getQ l s) 100000) (h2:RS x 100000):Eqn Tryz.prog o_av [.mp 0,.d (.agg (stD s)),.d (rD x)] [spO l] (.tup []) [spO (addQ l s x)]:=by
 refine Eqn.gen [0] o_ax (by simp) (by simp) (by rfl) (by decide) (by simp) (by simp [spO,o_62]) ?_
 have ha:Eqn Tryz.prog o_8s [.d (lookD rcD zR s l),.d (rD x)] [] (.d (rD (getQ l s+x))) []:=(o_sz _ _ h1 h2).sub (Subs.cons (o_x7 s l) (Subs.refl _))
 have hl:=o_va rcD (fun _=>rfl) s l zR
 have hm:=o_vb rcD (fun _=>rfl) s l (getQ l s+x)
 have hn:=o_v5 rcD (fun _=>rfl) l
 refine cc (c':=?z170) ?_ ?_
 case refine_1=>cbv<;>exact rfl
 try simp only [spO,o_x5,stD,zR,addQ,rcD] at ha hl hm hn ⊢
 generalize spD (fun q=>_) l=L at *
 generalize spD (fun q=>_) (setQ l s (getQ l s+x))=L2 at *
 refine A10 (fs hl (fs hm hn)) ?_;try with_reducible exact tt
 refine CallS.pu (ha) (R1 (fs hl (fs hm hn)) ?_);try with_reducible exact tt
end
section
open Go.RowKit
theorem o_x9:RS (1:Rat) 1:=by
 have:=RS.mk' (z:=1) (d:=1) (N:=1) (by decide) (by decide) (by decide)
 exact this
theorem rof1:Eqn Tryz.prog o_8j [.d (.int .i64 1)] [] (.d (rD 1)) []:=by
 have:=o_ta 1 (by omega)
 simpa using this
theorem rof0:Eqn Tryz.prog o_8j [.d (.int .i64 0)] [] (.d (rD 0)) []:=by
 have:=o_ta 0 (by omega)
 simpa using this
theorem o_xa (x:Rat) (s o:St) (hx:RS x 1000) (hso:s≠o):Eqn Tryz.prog o_d1 [.d (rD x),.d (.agg (stD s)),.d (.agg (stD o))] [] (.mp 0) [spO (eitQ x s o)]:=by
 refine Eqn.gen [3] o_d3 (by simp) (by simp) (by rfl) (by decide) (by simp) (by simp [spO]) ?_
 have h1:RS (1-x) 2000:=(o_x9.sub hx).le (by omega)
 have a1:=o_x8 [] s x (by simp only [getQ];exact ⟨by decide,by decide⟩) (hx.le (by omega))
 have a2:=o_x8 (addQ [] s x) o (1-x) (by rw [addQ,o_v7,if_neg (fun h=>hso h.symm)];show RS (0:Rat) 100000;exact ⟨by decide,by decide⟩) (h1.le (by omega))
 have hs:=o_t0 1 x (o_x9.le (by omega)) (hx.le (by omega))
 have ho:=rof1
 refine cc (c':=?z171) ?_ ?_
 case refine_1=>cbv<;>exact rfl
 try simp only [spO,o_x5,stD,eitQ,spD,List.flatMap_nil,List.map_nil] at a1 a2 hs ho ⊢
 generalize (addQ [] s x).flatMap _=L1 at *
 generalize (addQ (addQ [] s x) o (1-x)).flatMap _=L2 at *
 generalize rcD (1-x)=R1 at *
 simp only [rcD] at a1 hs ho ⊢
 refine A00 ?_;try with_reducible exact tt
 refine CallS.g [3] (a1) (R0 ?_);try with_reducible exact tt
 refine CallS.pu (ho) (R0 ?_);try with_reducible exact tt
 refine CallS.pu (hs) (R0 ?_);try with_reducible exact tt
 refine CallS.g [3] (a2) (R0 ?_);try with_reducible exact tt
 done
@[simp] theorem o_xb (ks:List Nat) (vw:Nat) (kl dv:List D):mset ks vw kl dv []=some (kl++dv):=by simp [mset,mfind]
theorem o_xc (s:St):Eqn Tryz.prog o_a7 [.d (.agg (stD s))] [] (.mp 0) [spO [(s,1)]]:=by
 refine Eqn.gen [1] o_a9 (by simp) (by simp) (by rfl) (by decide) (by simp) (by simp [spO]) ?_
 have ho:=rof1
 refine cc (c':=?z172) ?_ ?_
 case refine_1=>cbv<;>exact rfl
 try simp only [spO,o_x5,stD,rcD,spD,List.flatMap_cons,List.flatMap_nil] at ho ⊢
 simp
 refine A00 ?_;try with_reducible exact tt
 refine CallS.pu (ho) (R0 ?_);try with_reducible exact tt

def chP (k a x:Nat):Rat:=if k=1 then chM a x else mkRat 1 (2^expOf k a x)
theorem o_xd (e:Nat):halfD e=rD (mkRat 1 (2^e)):=by
 obtain ⟨h1,h2,h3⟩:=o_7o 1 (2^e) (Nat.two_pow_pos e)
 have hg:Nat.gcd (1:Int).natAbs (2^e)=1:=by simp
 rw [hg] at h1 h2
 unfold halfD rD
 rw [h1,h2,show decide ((mkRat 1 (2^e)).num<0)=false by rw [decide_eq_false_iff_not,h3];decide]
 simp
theorem o_xe : MethOK Tryz.prog 150 "tallymark/chain.chance" o_hw := fun v w => by kernel_rfl
theorem o_xf (a k:Nat) (h1:1≤a) (h2:a≤4096) (hk:k≤1023) (hb:bitsN (a+1)*k≤8192):Eqn Tryz.prog o_hw [.d (.int .i64 a),.d (.int .i64 k)] [] (.tup [.d (rD (chM a k)),.d (.int .i64 0)]) []:=by
 refine Eqn.pure o_hy (o_lr _ _) ?_
 have h:=(o_tf a k h1 h2 hk hb).1
 rw [o_x5] at h ⊢
 refine cc (c':=?z173) ?_ ?_
 case refine_1=>cbv<;>exact rfl
 try simp only [rcD] at h ⊢
 refine G0 ?_;try with_reducible exact tt
 refine CallS.pu (h) (R0 ?_);try with_reducible exact tt
theorem o_xg {k a w x : Nat} (h : GoodS k a w) (hx : x ≤ 15) : ∃ ti d g, MethOK Tryz.prog ti "tallymark/chain.chance" g ∧ kindD k a = .ifc ti d ∧ Eqn Tryz.prog g [.d d, .d (.int .i64 x)] [] (.tup [.d (rD (chP k a x)), .d (.int .i64 0)]) [] := by
 by_cases hk:k=1
 ·subst hk
  have ha:1≤a∧a≤4:=by
   rcases h.1 with ⟨-,h1,h2⟩ | ⟨h1,-⟩ | ⟨h1,-⟩
   ·exact ⟨h1,h2⟩
   ·omega
   ·omega
  refine ⟨_,_,_,o_xe,rfl,?_⟩
  rw [chP,if_pos rfl]
  have hb:bitsN (a+1)≤3:=o_nl (by omega)
  exact o_xf a x ha.1 (by omega) (by omega) (Nat.le_trans (Nat.mul_le_mul hb hx) (by omega))
 ·obtain ⟨ti,d,g,h1,h2,h3⟩:=o_qm h hk hx
  rw [o_xd] at h3
  exact ⟨ti,d,g,h1,h2,by rw [chP,if_neg hk];exact h3⟩
theorem o_xh {k a w x:Nat} (h:GoodS k a w) (hx:x<2^w-1):Eqn Tryz.prog o_dg [.d (parD k a w),.d (.int .i64 x)] [] (.tup [.d (rD (chP k a x)),.d (.int .i64 0)]) []:=by
 refine Eqn.pure o_di (o_lr _ _) ?_
 have h2:2^w-1≤15:=by have:=Nat.pow_le_pow_right (n:=2) (by omega) h.2.2;omega
 have w2:w≤10:=by have:=h.2.2;omega
 have hc:=o_px h
 have hat:=o_pi k a w w2 x (by omega) (by omega) hc
 have ht:=o_ph k a w w2 hc
 have hkd:=o_nj k a w
 obtain ⟨ti,d,g,hm,hd,hg⟩:=o_xg (x:=x) h (by omega)
 rw [hd] at hkd
 rw [o_x5] at hg ⊢
 refine cc (c':=?z174) ?_ ?_
 case refine_1=>cbv<;>exact rfl
 try simp only [parD,rcD] at hat ht hg ⊢
 generalize 2^w-1=W at *
 have g1:¬x=W:=by omega
 have g2:¬(x:Int)=W:=by omega
 refine G1 (fs g1 g2) ?_;try with_reducible exact tt
 refine CallS.pf 2 1 ⟨3,_⟩ [.int .i64 x] (hat) (by first | rfl | (simp [g1,g2];done)) (R1 (fs g1 g2) ?_);try with_reducible exact tt
 refine CallS.pu (ht) (R1 (fs g1 g2) ?_);try with_reducible exact tt
 refine AW.cond rfl (fun h=>?_) (fun h=>?_)
 ·simp [g2] at h
 refine G0 ?_;try with_reducible exact tt
 refine CallS.pu (hkd) (R0 ?_);try with_reducible exact tt
 refine ⟨_,hm,?_⟩
 refine CallS.pu (hg) (R0 ?_);try with_reducible exact tt
theorem o_xi {k a w:Nat} (h:GoodS k a w):Eqn Tryz.prog o_dg [.d (parD k a w),.d (.int .i64 (2^w-1:Nat))] [] (.tup [.d (.agg zR),.d (.int .i64 0)]) []:=by
 refine Eqn.pure o_di (o_lr _ _) ?_
 have h2:2^w-1≤15:=by have:=Nat.pow_le_pow_right (n:=2) (by omega) h.2.2;omega
 have w2:w≤10:=by have:=h.2.2;omega
 have hc:=o_px h
 have hat:=o_pi k a w w2 ((2^w-1:Nat):Int) (by omega) (Int.le_refl _) hc
 have ht:=o_ph k a w w2 hc
 refine cc (c':=?z175) ?_ ?_
 case refine_1=>cbv<;>exact rfl
 try simp only [parD,zR] at hat ht ⊢
 generalize 2^w-1=W at *
 refine G0 ?_;try with_reducible exact tt
 refine CallS.pf 2 1 ⟨3,_⟩ [.int .i64 W] (hat) (by first | rfl | (simp;done)) (R0 ?_);try with_reducible exact tt
 refine CallS.pu (ht) (R0 ?_);try with_reducible exact tt
 refine A00 ?_;try with_reducible exact tt
theorem o_xj (k a b:Int):Eqn Tryz.prog o_dd [.d (parD k a b)] [] (.d (parD k a b)) []:=by
 refine Eqn.pure o_df Plain.ok ?_
 refine cc (c':=?z176) ?_ ?_
 case refine_1=>cbv<;>exact rfl
 try simp only [parD]
 refine A00 ?_;try with_reducible exact tt
end
section
def stP (k a x:Nat):CP Bool:=if k=1 then powP (a+1) a x else halfP (expOf k a x)
theorem o_xk (k a x:Nat) (g:Bool→Rat):(stP k a x).E g=chP k a x*g true+(1-chP k a x)*g false:=by
 unfold stP chP
 split
 ·rw [o_wx (Nat.lt_succ_self a) g x]
  have e:chM a x=((a:Rat)/((a+1:Nat):Rat))^x:=by
   unfold chM
   rw [Rat.mkRat_eq_div]
   rfl
  rw [e]
 ·exact o_wg g _
theorem o_xl {k a w x:Nat} (h:GoodS k a w) (hx:x≤15) (cs:List Bool) (p:Nat) (d:Bool):stOf cs k a x p d=if k=1 then powerR cs a (a+1) x p d else halfR cs (expOf k a x) p d:=by
 obtain ⟨h,h1,h2⟩:=h
 have o1:okK (x:Int)=true:=by simp [okK];omega
 rcases h with ⟨rfl,h3,h4⟩ | ⟨rfl,h3⟩ | ⟨rfl,h3,h4⟩
 ·have e:wrongM (a:Int) [(x:Int)]=0:=by unfold wrongM;rw [if_pos (by omega)];simp [o1]
  simp only [stOf,stepM,e,if_true,Int.toNat_natCast]
  simp
 ·have e:wrongZ (a:Int) [(x:Int)]=0:=by unfold wrongZ;rw [if_pos (by omega)];simp [o1]
  simp only [stOf,stepG,e,if_true,Int.toNat_natCast,expOf]
  simp
 ·have e:atE (a:Int) (x:Int)=0:=by unfold atE;rw [if_pos (by omega),if_pos (by omega)]
  simp only [stOf,stepYG,atP,e,if_true,Int.toNat_natCast,expOf]
  simp
theorem o_xm {k a w x:Nat} (h:GoodS k a w) (hx:x≤15):Runs (fun cs p d=>stOf cs k a x p d) (stP k a x):=fun cs p hp=>by
 have ha:k=1→a≠0:=fun hk=>by
  obtain ⟨h,-,-⟩:=h
  omega
 simp only [o_xl h hx]
 unfold stP
 by_cases hk:k=1
 ·simp only [if_pos hk]
  exact o_ww (a+1) a (ha hk) x cs p hp
 ·simp only [if_neg hk]
  exact o_wf (expOf k a x) cs p hp
end
section
open Go.RowKit
abbrev Wm:=List (St×Nat)
def wnC (p:St×Nat):List D:=stD p.1++[.int .i64 p.2]
def spN (l:Wm):List D:=l.flatMap wnC
theorem o_xn (p:St×Nat) (l:Wm):spN (p::l)=wnC p++spN l:=by unfold spN;rw [List.flatMap_cons]
theorem o_xo:∀l:Wm,(spN l).length=l.length*4
 | []=>rfl
 | p::l=>by rw [o_xn,List.length_append,o_xo l,List.length_cons,Nat.add_mul];simp [wnC];omega
def getN (s:St):Wm→Nat
 | []=>0
 | p::r=>if s=p.1 then p.2 else getN s r
def setN (l:Wm) (s:St) (v:Nat):Wm:=match l with
 | []=>[(s,v)]
 | p::r=>if s=p.1 then (s,v)::r else p::setN r s v
def touN (l:Wm) (s:St):Wm:=match l with
 | []=>[(s,0)]
 | p::r=>if s=p.1 then p::r else p::touN r s
def idxN (s:St):Wm→Option Nat
 | []=>none
 | p::l=>if s=p.1 then some 0 else (idxN s l).map (·+1)
def posN (s:St):Wm→Nat
 | []=>0
 | p::l=>if s=p.1 then 0 else posN s l+1
theorem o_xp (s:St):∀l:Wm,idxN s l=none∧posN s l=l.length∨idxN s l=some (posN s l)∧posN s l<l.length
 | []=>.inl ⟨rfl,rfl⟩
 | p::l=>by
  unfold idxN posN
  by_cases h:s=p.1
  ·right;simp [h]
  ·rcases o_xp s l with ⟨h1,h2⟩ | ⟨h1,h2⟩
   ·left;simp [h,h1,h2]
   ·right;simp [h,h1,h2]
theorem o_xq (s:St):∀l:Wm,mfind [0,0,1] 1 (stD s) l.length (spN l)=some (idxN s l)
 | []=>rfl
 | p::l=>by
  have e1:(spN (p::l)).take 3=stD p.1:=by
   rw [o_xn,wnC,List.append_assoc,List.take_append_of_le_length (by simp),List.take_of_length_le (by simp)]
  have e2:(spN (p::l)).drop 4=spN l:=by
   rw [o_xn,List.drop_append,List.drop_eq_nil_of_le (by simp [wnC]),List.nil_append]
   simp [wnC]
  simp only [List.length_cons,mfind,List.length_nil]
  rw [e1,o_v4,e2]
  by_cases h:s=p.1
  ·simp [h,idxN]
  ·simp only [h,decide_false]
   rw [o_xq s l]
   simp [idxN,h]
theorem o_xr (l:Wm) (i:Nat):(spN l).drop (i*4)=spN (l.drop i):=by
 induction l generalizing i with
 | nil=>simp [spN]
 | cons p l ih =>
  cases i with
  | zero=>simp
  | succ i =>
   rw [o_xn,List.drop_append,List.drop_eq_nil_of_le (by simp [wnC];omega),List.nil_append,List.drop_succ_cons,←ih]
   congr 1
   simp [wnC]
   omega
theorem o_xs (l:Wm) (i:Nat):(spN l).take (i*4)=spN (l.take i):=by
 induction l generalizing i with
 | nil=>simp [spN]
 | cons p l ih =>
  cases i with
  | zero=>simp [spN]
  | succ i =>
   have h4:(wnC p).length=4:=rfl
   rw [o_xn,List.take_append,List.take_of_length_le (by omega),h4,show (i+1)*4-4=i*4 by omega,ih,List.take_succ_cons,o_xn]
theorem o_xt (l k:Wm):spN (l++k)=spN l++spN k:=by simp [spN]
theorem o_xu (l:Wm):(spN l).length/([0,0,1].length+1)=l.length:=by rw [o_xo];simp
theorem o_xv (s:St):∀l:Wm,posN s l<l.length→∃v,l[posN s l]?=some (s,v)∧getN s l=v
 | [],h=>by simp [posN] at h
 | p::l,h=>by
  unfold posN at h ⊢
  unfold getN
  by_cases e:s=p.1
  ·simp [e]
  ·simp only [if_neg e,List.length_cons] at h ⊢
   obtain ⟨v,h1,h2⟩:=o_xv s l (by omega)
   exact ⟨v,by simpa using h1,h2⟩
theorem o_xw (s:St):∀l:Wm,idxN s l=none→getN s l=0∧touN l s=l++[(s,0)]
 | [],_=>⟨rfl,rfl⟩
 | p::l,h=>by
  unfold idxN at h
  by_cases e:s=p.1
  ·simp [e] at h
  ·simp only [if_neg e,Option.map_eq_none_iff] at h
   obtain ⟨h1,h2⟩:=o_xw s l h
   unfold getN touN
   simp [e,h1,h2]
theorem o_xx (s:St):∀l:Wm,idxN s l≠none→touN l s=l
 | [],h=>absurd rfl h
 | p::l,h=>by
  unfold touN
  by_cases e:s=p.1
  ·simp [e]
  ·unfold idxN at h
   simp only [if_neg e,ne_eq,Option.map_eq_none_iff] at h
   simp [e,o_xx s l h]
theorem o_xy (s:St) (l:Wm):mlook [0,0,1] 1 false [.int .i64 0] (stD s) (spN l)=some (.int .i64 (getN s l)):=by
 unfold mlook
 rw [o_xu,o_xq]
 rcases o_xp s l with ⟨h1,h2⟩ | ⟨h1,h2⟩
 ·rw [h1,(o_xw s l h1).1];rfl
 ·rw [h1]
  obtain ⟨v,h3,h4⟩:=o_xv s l h2
  have e:(spN l).drop (posN s l*4+3)=((spN l).drop (posN s l*4)).drop 3:=by rw [List.drop_drop]
  simp only [Option.map_some,Option.some.injEq]
  show glD false (((spN l).drop (posN s l*4+3)).take 1)=_
  rw [e,o_xr,List.drop_eq_getElem_cons h2,o_xn,h4]
  have h5:l[posN s l]=(s,v):=by rw [List.getElem?_eq_getElem h2] at h3;simpa using h3
  rw [h5]
  rfl
theorem o_xz (s:St) (l:Wm):mentD [0,0,1] 1 false [.int .i64 0] (stD s) (spN l)=some (.int .i64 (getN s l),posN s l,spN (touN l s)):=by
 unfold mentD
 rw [o_xu,o_xq]
 rcases o_xp s l with ⟨h1,h2⟩ | ⟨h1,h2⟩
 ·rw [h1,(o_xw s l h1).1,(o_xw s l h1).2,h2,o_xt];rfl
 ·rw [h1,o_xx s l (by rw [h1];simp)]
  obtain ⟨v,h3,h4⟩:=o_xv s l h2
  have h5:l[posN s l]=(s,v):=by rw [List.getElem?_eq_getElem h2] at h3;simpa using h3
  have hd:(spN l).drop (posN s l*4)=wnC (s,v)++spN (l.drop (posN s l+1)):=by
   rw [o_xr,List.drop_eq_getElem_cons h2,o_xn,h5]
  have e:(spN l).drop (posN s l*4+3)=((spN l).drop (posN s l*4)).drop 3:=by rw [List.drop_drop]
  simp only [Option.map_some,Option.some.injEq]
  show (glD false (((spN l).drop (posN s l*4+3)).take 1),posN s l,(spN l).take (posN s l*4)++(stD s++((spN l).drop (posN s l*4+3)).take 1)++(spN l).drop ((posN s l+1)*4))=_
  rw [e,hd,o_xr,o_xs,h4]
  have e2:((wnC (s,v)++spN (l.drop (posN s l+1))).drop 3).take 1=[.int .i64 v]:=rfl
  rw [e2]
  refine Prod.ext rfl (Prod.ext rfl ?_)
  show spN (l.take (posN s l))++wnC (s,v)++spN (l.drop (posN s l+1))=spN l
  have e3:l=l.take (posN s l)++((s,v)::l.drop (posN s l+1)):=by
   rw [←h5,←List.drop_eq_getElem_cons h2,List.take_append_drop]
  have e4:=congrArg spN e3
  rw [o_xt,o_xn] at e4
  rw [List.append_assoc]
  exact e4.symm
theorem o_y0 (s:St):∀l:Wm,posN s l<(touN l s).length
 | []=>by simp [posN,touN]
 | p::l=>by
  unfold posN touN
  by_cases e:s=p.1
  ·simp [e]
  ·have:=o_y0 s l
   simp [e];omega
theorem o_y1 (s:St) (v:Nat):∀l:Wm,setN l s v=(touN l s).take (posN s l)++((s,v)::(touN l s).drop (posN s l+1))
 | []=>by simp [setN,touN,posN]
 | p::l=>by
  unfold setN touN posN
  by_cases e:s=p.1
  ·simp [e]
  ·simp [e,o_y1 s v l]
theorem o_y2 (s:St):∀l:Wm,((touN l s)[posN s l]?).map (·.1)=some s
 | []=>by simp [touN,posN]
 | p::l=>by
  unfold touN posN
  by_cases e:s=p.1
  ·simp [e]
  ·simpa [e] using o_y2 s l
theorem o_y3 (s:St) (l:Wm) (v:Nat):estoD 3 1 (posN s l) [.int .i64 v] (spN (touN l s))=spN (setN l s v):=by
 unfold estoD
 have h1:=o_y0 s l
 have h2:=o_y2 s l
 obtain ⟨u,hu⟩:∃u,(touN l s)[posN s l]=(s,u):=by
  rw [List.getElem?_eq_getElem h1] at h2
  simp only [Option.map_some,Option.some.injEq] at h2
  exact ⟨((touN l s)[posN s l]).2,Prod.ext h2 rfl⟩
 show (spN (touN l s)).take (posN s l*4)++(((spN (touN l s)).drop (posN s l*4)).take 3++[.int .i64 v])++(spN (touN l s)).drop ((posN s l+1)*4)=_
 rw [o_xs,o_xr,o_xr,List.drop_eq_getElem_cons h1,hu,o_xn,o_y1 s v l,o_xt,o_xn]
 have e2:(wnC (s,u)++spN ((touN l s).drop (posN s l+1))).take 3=stD s:=rfl
 rw [e2,List.append_assoc]
 rfl
theorem o_y4 (l:Wm) (s:St):posN s l<(spN (touN l s)).length/([0,0,1].length+1):=by rw [o_xu];exact o_y0 s l
def addN (l:Wm) (s:St) (w:Nat):Wm:=setN l s (getN s l+w)
def walkN (ask:List Bool→St×Int):Nat→List Bool→Wm×Nat→Wm×Nat
 | 0,pre,(L,op)=>if (ask pre).2=0 then (addN L (ask pre).1 1,op) else (L,op+1)
 | d+1,pre,(L,op)=>if (ask pre).2=8 then walkN ask d (pre++[true]) (walkN ask d (pre++[false]) (L,op))
  else if (ask pre).2=0 then (addN L (ask pre).1 (2^(d+1)),op) else (L,op+2^(d+1))
theorem o_y5 (s t:St) (v:Nat):∀l:Wm,getN t (setN l s v)=if t=s then v else getN t l
 | []=>by simp [setN,getN]
 | p::r=>by
  unfold setN
  split
  ·rename_i e
   unfold getN
   by_cases h:t=s
   ·simp [h]
   ·simp [h,show ¬t=p.1 from fun h'=>h (h'.trans e.symm)]
  ·rename_i e
   unfold getN
   rw [o_y5 s t v r]
   by_cases h:t=s
   ·subst h;simp [e]
   ·simp [h]
theorem o_y6 {ask:List Bool→St×Int}:∀(d:Nat) (pre:List Bool) (X:Wm×Nat),(walkN ask d pre X).2≤X.2+2^d∧∀s,getN s (walkN ask d pre X).1≤getN s X.1+2^d
 | 0,pre,(L,op)=>by
  unfold walkN
  split
  ·refine ⟨by simp,fun s=>?_⟩
   simp only [addN,o_y5]
   split
   ·rename_i h;subst h;simp
   ·omega
  ·exact ⟨by simp,fun s=>by simp⟩
 | d+1,pre,(L,op)=>by
  have hp:=Nat.two_pow_pos d
  have e2:2^(d+1)=2^d+2^d:=by rw [Nat.pow_succ];omega
  unfold walkN
  split
  ·obtain ⟨h1,h2⟩:=o_y6 (ask:=ask) d (pre++[false]) (L,op)
   obtain ⟨h3,h4⟩:=o_y6 (ask:=ask) d (pre++[true]) (walkN ask d (pre++[false]) (L,op))
   refine ⟨by simp only at h1;omega,fun s=>?_⟩
   have:=h2 s
   have:=h4 s
   simp only at *
   omega
  ·split
   ·refine ⟨by simp,fun s=>?_⟩
    simp only [addN,o_y5]
    split
    ·rename_i h;subst h;omega
    ·omega
   ·exact ⟨by simp,fun s=>by simp only;omega⟩
end
section
open Go.RowKit
theorem o_y7 (x:Int):Eqn Tryz.prog o_h5 [.d (.int .i64 x)] [] (.d (.bool false)) []:=by
 refine Eqn.pure o_h7 Plain.ok ?_
 refine cc (c':=?z177) ?_ ?_
 case refine_1=>cbv<;>exact rfl
 refine A00 ?_;try with_reducible exact tt
def cmpG (x y:Int):Int:=if x<y then -1 else if y<x then 1 else 0
theorem o_y8 (x y:Int):Eqn Tryz.prog o_g2 [.d (.int .i64 x),.d (.int .i64 y)] [] (.d (.int .i64 (cmpG x y))) []:=by
 refine Eqn.pure o_g4 Plain.ok ?_
 refine cc (c':=?z178) ?_ ?_
 case refine_1=>cbv<;>exact rfl
 have h1:=o_y7 x
 have h2:=o_y7 y
 unfold cmpG
 by_cases g1:x<y
 ·rw [if_pos g1]
  refine A12 g1 h1 h2 ?_;try with_reducible exact tt
 ·rw [if_neg g1]
  by_cases g2:y<x
  ·rw [if_pos g2]
   refine A12 (fs g1 g2) h1 h2 ?_;try with_reducible exact tt
  ·rw [if_neg g2]
   refine A12 (fs g1 g2) h1 h2 ?_;try with_reducible exact tt
theorem o_y9 (f:Bool):Eqn Tryz.prog o_g5 [.d (.bool f)] [] (.d (.int .i64 ((if f then 1 else 0)))) []:=by
 refine Eqn.pure o_g7 Plain.ok ?_
 refine cc (c':=?z179) ?_ ?_
 case refine_1=>cbv<;>exact rfl
 cases f
 ·refine A00 ?_;try with_reducible exact tt
 ·refine A00 ?_;try with_reducible exact tt
def orG (a b c:Int):Int:=if a≠0 then a else if b≠0 then b else c
theorem o_ya (a b c:Int):Eqn Tryz.prog o_fz [.d (.sl 3 [.int .i64 a,.int .i64 b,.int .i64 c])] [] (.d (.int .i64 (orG a b c))) []:=by
 refine Eqn.pure o_g1 Plain.ok ?_
 refine cc (c':=?z180) ?_ ?_
 case refine_1=>cbv<;>exact rfl
 unfold orG
 by_cases ha:a=0
 ·subst ha
  by_cases hb:b=0
  ·subst hb
   by_cases hc:c=0
   ·subst hc
    refine A00 ?_;try with_reducible exact tt
    refine AW.rounds 4 ?_
    refine A00 ?_;try with_reducible exact tt
   ·refine A00 ?_;try with_reducible exact tt
    refine AW.rounds 4 ?_
    refine A10 hc ?_;try with_reducible exact tt
  ·refine A00 ?_;try with_reducible exact tt
   refine AW.rounds 4 ?_
   refine A10 hb ?_;try with_reducible exact tt
 ·refine A00 ?_;try with_reducible exact tt
  refine AW.rounds 4 ?_
  refine A10 ha ?_;try with_reducible exact tt
end
section
open Go.RowKit
def ordI (p q:St×Rat):Int:=orG (cmpG p.1.1 q.1.1) (cmpG p.1.2.1 q.1.2.1) (cmpG (if p.1.2.2 then 1 else 0) (if q.1.2.2 then 1 else 0))
theorem o_yb (p q:St×Rat):ordI p q<0↔ltS p.1 q.1=true:=by
 obtain ⟨⟨a,b,c⟩,x⟩:=p;obtain ⟨⟨a',b',c'⟩,x'⟩:=q
 unfold ordI orG cmpG ltS
 simp only [Bool.or_eq_true,Bool.and_eq_true,decide_eq_true_eq,Bool.not_eq_true']
 cases c<;>cases c'<;>simp<;>(repeat' split)<;>omega
theorem o_yc (p q:St×Rat) (x y z x' y' z':D):Eqn Tryz.prog o_dn [.d (.agg [.int .i64 p.1.1,.int .i64 p.1.2.1,.bool p.1.2.2,x,y,z]),.d (.agg [.int .i64 q.1.1,.int .i64 q.1.2.1,.bool q.1.2.2,x',y',z'])] [] (.d (.int .i64 (ordI p q))) []:=by
 refine Eqn.pure o_dp Plain.ok ?_
 refine cc (c':=?z181) ?_ ?_
 case refine_1=>cbv<;>exact rfl
 have t1:=o_y9 p.1.2.2
 have t2:=o_y9 q.1.2.2
 have c1:=o_y8 p.1.1 q.1.1
 have c2:=o_y8 p.1.2.1 q.1.2.1
 have c3:=o_y8 (if p.1.2.2 then 1 else 0) (if q.1.2.2 then 1 else 0)
 have ho:=o_ya (cmpG p.1.1 q.1.1) (cmpG p.1.2.1 q.1.2.1) (cmpG (if p.1.2.2 then 1 else 0) (if q.1.2.2 then 1 else 0))
 unfold ordI
 generalize cmpG (if p.1.2.2 then 1 else 0) (if q.1.2.2 then 1 else 0)=C3 at *
 generalize cmpG p.1.1 q.1.1=C1 at *
 generalize cmpG p.1.2.1 q.1.2.1=C2 at *
 generalize (if p.1.2.2 then (1:Int) else 0)=T1 at *
 generalize (if q.1.2.2 then (1:Int) else 0)=T2 at *
 generalize p.1.2.2=F1 at *
 generalize q.1.2.2=F2 at *
 refine A06B c1 c2 t1 t2 c3 c3 ?_;try with_reducible exact tt
 refine CallS.pf 4 1 ⟨3,[.d (.int .i64 C1),.d (.int .i64 C2),.d (.int .i64 C3)]⟩ [.int .i64 C1,.int .i64 C2,.int .i64 C3] (ho) (by first | rfl | (simp [-Bool.exists_bool];done)) (R0B ?_);try with_reducible exact tt

section
variable {aC:St×Rat→List D}
def rowA (aC:St×Rat→List D) (l:Sp):List V:=(l.flatMap aC).map .d
theorem o_yd (h6:∀p,(aC p).length=6) (l:Sp):(rowA aC l).length=l.length*6:=by
 rw [rowA,List.length_map,o_6p h6]
@[simp] theorem o_ye (n:Nat) (l:Sp):V.lowl n (rowA aC l)=true:=o_62 _ _
@[simp] theorem o_yf (θ:Nat→Nat) (l:Sp):V.rens θ (rowA aC l)=rowA aC l:=o_61 _ _
theorem o_yg (l k:Sp):rowA aC (l++k)=rowA aC l++rowA aC k:=by simp [rowA]
def SortTo (L K:Sp):Prop:=∀K':Sp,K'.Perm L→K'.Pairwise (fun a b=>ltS a.1 b.1=true)→K'=K
end
end
section
open Go.RowKit
def topC (w:Nat):Nat:=2^w-1
def onQ (w:Nat) (s:St) (x:Rat):Sp:=if s.1=topC w then [((s.1,s.2.1,true),1)] else eitQ x (s.1+1,s.2) s
theorem o_yh {k a w:Nat} (h:GoodS k a w) (s:St) (hs:s.1≤topC w) (x:Rat) (hx:RS x 1000) (X:D) (hX:Sub1 (.d X) (.d (rD x))) (hX2:∃x0 x1 x2,X = .agg [x0,x1,x2]) :
  Eqn Tryz.prog o_dj [.d (parD k a w),.d (.agg (stD s)),.d X] [] (.mp 0) [spO (onQ w s x)]:=by
 have h15:topC w≤15:=by have:=Nat.pow_le_pow_right (n:=2) (by omega) h.2.2;unfold topC;omega
 have w2:w≤10:=by have:=h.2.2;omega
 have hc:=o_px h
 have ht:=o_ph k a w w2 hc
 have hl:=o_xj k a w
 rw [show 2^w-1=topC w from rfl] at ht
 obtain ⟨x0,x1,x2,rfl⟩:=hX2
 obtain ⟨s1,s2,s3⟩:=s
 simp only at hs
 unfold onQ
 generalize topC w=W at *
 by_cases e:s1=W
 ·subst e
  rw [if_pos rfl]
  refine Eqn.gen [3] o_dl (by simp) (by simp) (by rfl) (by decide) (by simp) (by simp [spO]) ?_
  have hsu:=o_xc (s1,s2,true)
  refine cc (c':=?z183) ?_ ?_
  case refine_1=>cbv<;>exact rfl
  try simp only [spO,stD,parD] at ht hl hsu ⊢
  generalize spD rcD [((s1,s2,true),1)]=L at *
  refine A00 ?_;try with_reducible exact tt
  refine CallS.pu (hl) (R0 ?_);try with_reducible exact tt
  refine CallS.pu (ht) (R0 ?_);try with_reducible exact tt
  refine A00 ?_;try with_reducible exact tt
  refine CallS.nX (hsu) (R0 ?_);try with_reducible exact tt
 ·rw [if_neg e]
  have hei:=o_xa x (s1+1,s2,s3) (s1,s2,s3) hx (by simp)
  replace hei:=hei.sub (Subs.cons hX (Subs.refl _))
  have e1:¬(s1:Int)=(W:Int):=by omega
  have ew:IntKind.i64.wrap ((s1:Int)+1)=((s1+1:Nat):Int):=by rw [w64 (by omega) (by omega)];omega
  refine Eqn.gen [4] o_dl (by simp) (by simp) (by rfl) (by decide) (by simp) (by simp [spO]) ?_
  refine cc (c':=?z184) ?_ ?_
  case refine_1=>cbv<;>exact rfl
  try simp only [spO,stD,parD] at ht hl hei ⊢
  generalize spD rcD _=L at *
  refine A00 ?_;try with_reducible exact tt
  refine CallS.pu (hl) (R0 ?_);try with_reducible exact tt
  refine CallS.pu (ht) (R1 (fs e e1) ?_);try with_reducible exact tt
  refine A10 (fs e (fs e1 ew)) ?_;try with_reducible exact tt
  refine CallS.nX (hei) (R1 ew ?_);try with_reducible exact tt
end
section
open Go.RowKit
theorem o_yi {k a w x:Nat} (h:GoodS k a w) (hx:x≤15):RS (chP k a x) 1000:=by
 unfold chP
 by_cases hk:k=1
 ·subst hk
  rw [if_pos rfl]
  have ha:1≤a∧a≤4:=by
   rcases h.1 with ⟨-,h1,h2⟩ | ⟨h1,-⟩ | ⟨h1,-⟩
   ·exact ⟨h1,h2⟩
   ·omega
   ·omega
  have hb:bitsN (a+1)≤3:=o_nl (by omega)
  exact (o_tf a x ha.1 (by omega) (by omega) (Nat.le_trans (Nat.mul_le_mul hb hx) (by omega))).2.le (by omega)
 ·rw [if_neg hk]
  have he:=o_ql h hk hx
  exact RS.mk' (Nat.two_pow_pos _) (by show size 1≤1000;exact Nat.le_trans (by decide:size 1≤1) (by omega)) (Nat.le_trans (o_qn he) (by omega))
theorem o_yj {k a w:Nat} (h:GoodS k a w) (s:St) (hs:s.1≤topC w):Eqn Tryz.prog o_ag [.d (parD k a w),.d (.agg (stD s))] [] (.mp 0) [spO (stepQ (topC w) (chP k a) s)]:=by
 have h15:topC w≤15:=by have:=Nat.pow_le_pow_right (n:=2) (by omega) h.2.2;unfold topC;omega
 have hk4:¬(k:Int)=4:=by have:=h.1;omega
 have hk4':¬k=4:=by have:=h.1;omega
 have hl:=o_xj k a w
 have hrs:=o_yi h (x:=s.1) (by omega)
 have hst:stepQ (topC w) (chP k a) s=onQ w s (chP k a s.1):=rfl
 rw [hst]
 have key:∃x0 x1 x2:D,Sub1 (.d (.agg [x0,x1,x2])) (.d (rD (if s.1=topC w then 0 else chP k a s.1)))∧Eqn Tryz.prog o_dg [.d (parD k a w),.d (.int .i64 s.1)] [] (.tup [.d (.agg [x0,x1,x2]),.d (.int .i64 0)]) []:=by
  by_cases e:s.1=topC w
  ·refine ⟨_,_,_,by rw [if_pos e];exact o_x6,?_⟩
   have:=o_xi h
   rw [show 2^w-1=s.1 from e.symm] at this
   exact this
  ·refine ⟨_,_,_,by rw [if_neg e];exact Sub1.refl _,o_xh h (by unfold topC at *;omega)⟩
 obtain ⟨x0,x1,x2,hX,hch⟩:=key
 have hon:Eqn Tryz.prog o_dj [.d (parD k a w),.d (.agg (stD s)),.d (.agg [x0,x1,x2])] [] (.mp 0) [spO (onQ w s (chP k a s.1))]:=by
  by_cases e:s.1=topC w
  ·rw [if_pos e] at hX
   have:=o_yh h s hs 0 (show RS (0:Rat) 1000 from ⟨by decide,by decide⟩) _ hX ⟨_,_,_,rfl⟩
   have e2:onQ w s 0=onQ w s (chP k a s.1):=by unfold onQ;rw [if_pos e,if_pos e]
   rw [e2] at this
   exact this
  ·rw [if_neg e] at hX
   exact o_yh h s hs _ hrs _ hX ⟨_,_,_,rfl⟩
 refine Eqn.gen [3] o_ai (by simp) (by simp) (by rfl) (by decide) (by simp) (by simp [spO]) ?_
 refine cc (c':=?z185) ?_ ?_
 case refine_1=>cbv<;>exact rfl
 try simp only [spO,stD,parD] at hl hch hon ⊢
 generalize spD rcD _=L at *
 refine A10 (fs hk4 hk4') ?_;try with_reducible exact tt
 refine CallS.pu (hl) (R0 ?_);try with_reducible exact tt
 refine CallS.pu (hch) (R0 ?_);try with_reducible exact tt
 refine A00 ?_;try with_reducible exact tt
 refine CallS.nX (hon) (R0 ?_);try with_reducible exact tt
theorem o_yk {k a w:Nat} (h:GoodS k a w) (s:St) (hs:s.1≤topC w):Eqn Tryz.prog o_ad [.d (.agg (stD s)),.p 0 0] [⟨29,[.d (.int .i64 k),.d (.int .i64 a),.d (.int .i64 w)]⟩] (.mp 1) [⟨29,[.d (.int .i64 k),.d (.int .i64 a),.d (.int .i64 w)]⟩,spO (stepQ (topC w) (chP k a) s)]:=by
 refine Eqn.gen [0,2] o_af (by simp) (by simp) (by rfl) (by decide) (by simp) (by simp [spO]) ?_
 have hst:=o_yj h s hs
 refine cc (c':=?z186) ?_ ?_
 case refine_1=>cbv<;>exact rfl
 try simp only [spO,stD,parD] at hst ⊢
 generalize spD rcD _=L at *
 refine A00 ?_;try with_reducible exact tt
 refine CallS.nX (hst) (R0 ?_);try with_reducible exact tt
end
section
open Go.RowKit
def atomC (p:St×Rat):List D:=stD p.1++rcD p.2
theorem o_yl (p:St×Rat):(atomC p).length=6:=rfl
theorem o_ym (l:Sp):spD rcD l=l.flatMap atomC:=rfl
theorem o_yn (p q:St×Rat):Eqn Tryz.prog o_dn [.d (.agg (atomC p)),.d (.agg (atomC q))] [] (.d (.int .i64 (ordI p q))) []:=o_yc p q _ _ _ _ _ _
def seenV (σ:List Nat):List V:=σ.map fun i:Nat=>V.d (.int .i64 (i:Int))
@[simp] theorem o_yo:∀σ:List Nat,seenOf (seenV σ)=some σ
 | []=>rfl
 | i::σ=>by
  have:=o_yo σ
  unfold seenV at *
  rw [List.map_cons,seenOf,if_pos (by omega),this]
  simp
@[simp] theorem o_yp (σ:List Nat) (i:Nat):seenV σ++[V.d (.int .i64 (i:Int))]=seenV (σ++[i]):=by simp [seenV]
@[simp] theorem o_yq (n:Nat) (σ:List Nat):V.lowl n (seenV σ)=true:=by
 induction σ with
 | nil=>rfl
 | cons i σ ih=>unfold seenV at *;simp [V.lowl,V.low,ih]
@[simp] theorem o_yr (θ:Nat→Nat) (σ:List Nat):V.rens θ (seenV σ)=seenV σ:=by
 induction σ with
 | nil=>rfl
 | cons i σ ih=>unfold seenV at *;simp [V.rens,V.ren,ih]
theorem o_ys:seenV []=[]:=rfl
def metQ (l:Sp) (σ:List Nat):Sp:=σ.flatMap fun i=>match l[i]? with
 | some p=>if p.2=0 then [] else [p]
 | none=>[]
theorem o_yt (l:Sp) (σ:List Nat) (i:Nat) (h:i<l.length):metQ l (σ++[i])=metQ l σ++if l[i].2=0 then [] else [l[i]]:=by
 simp [metQ,List.flatMap_append,List.getElem?_eq_getElem h]
theorem o_yu (l:Sp) (σ:List Nat) (hp:σ.Perm (List.range l.length)):(metQ l σ).Perm (nzQ l):=by
 have h1:(metQ l σ).Perm (metQ l (List.range l.length)):=List.Perm.flatMap_right _ hp
 refine h1.trans (List.Perm.of_eq ?_)
 have key:∀n,n≤l.length→metQ l (List.range n)=nzQ (l.take n):=by
  intro n
  induction n with
  | zero=>intro _;rfl
  | succ n ih =>
   intro hn
   rw [List.range_succ,o_yt l _ n (by omega),ih (by omega),List.take_add_one,List.getElem?_eq_getElem (by omega)]
   unfold nzQ
   rw [List.filter_append]
   congr 1
   simp only [Option.toList,List.filter_cons,List.filter_nil]
   by_cases h:l[n].2=0<;>simp [h]
 rw [key l.length (Nat.le_refl _),List.take_length]
theorem o_yv (l L:Sp) (hu:Uq l) (hp:L.Perm (nzQ l)):SortTo L (atQ l):=fun K' h1 h2=>o_vs hu (h1.trans hp) h2
end
section
open Go.RowKit
theorem o_yw {x y z:St} (h1:ltS x y=false) (h2:ltS y z=false):ltS x z=false:=by
 cases h:ltS x z with
 | false=>rfl
 | true =>
  rcases o_vk x y with h3 | h3 | h3
  ·rw [h3] at h1;cases h1
  ·rw [←h3,h] at h2;cases h2
  ·rw [o_vj h3 h] at h2;cases h2
structure AtV (I:Nat→Prop) (w:World):Type where
 enc:List Value
 «at» : St × Rat
 rep : D.reps I w (atomC «at») enc
 one:∀u∈enc,u.oneCell'=true
theorem AtV.len {I:Nat→Prop} {w:World} (x:AtV I w):x.enc.length=6:=by rw [D.reps_len x.rep];rfl
theorem D.reps_split {I:Nat→Prop} {w:World}:∀{l k:List D} {vs:List Value},D.reps I w (l++k) vs→∃us ws,vs=us++ws∧D.reps I w l us∧D.reps I w k ws
 | [],k,vs,h=>⟨[],vs,rfl,D.reps_nil.2 rfl,h⟩
 | x::l,k,vs,h=>by
  obtain ⟨v,r,rfl,h1,h2⟩:=D.reps_cons'.1 h
  obtain ⟨us,ws,rfl,h3,h4⟩:=D.reps_split h2
  exact ⟨v::us,ws,rfl,D.reps_cons.2 ⟨h1,h3⟩,h4⟩
theorem o_yx {I : Nat → Prop} {w : World} : ∀ (L : Sp) (us : List Value), D.reps I w (L.flatMap atomC) us → (∀ u ∈ us, u.oneCell' = true) → ∃ dl : List (AtV I w), dl.map AtV.«at» = L ∧ dl.flatMap AtV.enc = us
 | [],us,h,_=>by
  simp at h
  exact ⟨[],rfl,by simp [h]⟩
 | p::L,us,h,h1=>by
  rw [List.flatMap_cons] at h
  obtain ⟨a,b,rfl,h2,h3⟩:=D.reps_split h
  obtain ⟨dl,h4,h5⟩:=o_yx L b h3 fun u hu=>h1 u (by simp [hu])
  exact ⟨⟨a,p,h2,fun u hu=>h1 u (by simp [hu])⟩::dl,by rw [List.map_cons,h4],by rw [List.flatMap_cons,h5]⟩
theorem o_yy {I : Nat → Prop} {w : World} : ∀ dl : List (AtV I w), D.reps I w ((dl.map AtV.«at»).flatMap atomC) (dl.flatMap AtV.enc)
 | []=>by simp
 | x::dl=>by
  rw [List.map_cons,List.flatMap_cons,List.flatMap_cons]
  exact D.reps_append x.rep (o_yy dl)
theorem o_yz {I:Nat→Prop} {w:World}:∀dl:List (AtV I w),(dl.flatMap AtV.enc).length=dl.length*6
 | []=>rfl
 | x::dl=>by rw [List.flatMap_cons,List.length_append,o_yz dl,x.len,List.length_cons];omega
theorem o_z0 {α:Type} {k:Nat} (enc:α→List Value) (hk:∀x,(enc x).length=k):∀(l:List α) (t:Nat) (h:t<l.length*k),∃x,l[t/k]?=some x∧(l.flatMap enc)[t]?=(enc x)[t%k]?
 | [],t,h=>by simp at h
 | x::l,t,h=>by
  have k0:0<k:=by
   rcases Nat.eq_zero_or_pos k with h0 | h0
   ·subst h0;simp at h
   ·exact h0
  rw [List.flatMap_cons]
  by_cases ht:t<k
  ·refine ⟨x,by rw [Nat.div_eq_of_lt ht];rfl,?_⟩
   rw [List.getElem?_append_left (by rw [hk];exact ht),Nat.mod_eq_of_lt ht]
  ·have hd:t/k=(t-k)/k+1:=by
    rw [show t=(t-k)+k by omega,Nat.add_div_right _ k0];simp
   have hm:t%k=(t-k)%k:=by
    conv=>lhs;rw [show t=(t-k)+k by omega,Nat.add_mod_right]
   obtain ⟨y,h1,h2⟩:=o_z0 enc hk l (t-k) (by rw [List.length_cons,Nat.add_mul] at h;omega)
   refine ⟨y,by rw [hd];exact h1,?_⟩
   rw [List.getElem?_append_right (by rw [hk];omega),hk,h2,hm]
theorem o_z1 {α:Type} [Inhabited α] {k:Nat} (enc:α→List Value) (hk:∀x,(enc x).length=k) (hfl:∀l:List α,(l.flatMap enc).length=l.length*k) (dl:List α):Go.Sort.flatK enc k dl.toArray=(dl.flatMap enc).toArray:=by
 apply Array.ext
 ·rw [Go.Sort.size_flatK];simp [hfl]
 ·intro t h1 h2
  have ht:t<dl.length*k:=by rw [Go.Sort.size_flatK] at h1;simpa using h1
  obtain ⟨x,e1,e2⟩:=o_z0 enc hk dl t ht
  have h3:=Go.Sort.get_flatK enc k dl.toArray t (by simpa using ht)
  rw [getElem!_pos _ t h1] at h3
  rw [h3]
  have e3:dl.toArray[t/k]! = x:=by simp [Array.getElem!_eq_getD,Array.getD_eq_getD_getElem?,e1]
  rw [e3]
  have k0:0<k:=by
   rcases Nat.eq_zero_or_pos k with h0 | h0
   ·subst h0;simp at ht
   ·exact h0
  have h4:t%k<(enc x).length:=by rw [hk];exact Nat.mod_lt _ k0
  rw [List.getElem?_eq_getElem h4] at e2
  have e4:(dl.flatMap enc)[t]'(by rw [hfl];exact ht)=(enc x)[t%k]:=by
   have h5:t<(dl.flatMap enc).length:=by rw [hfl];exact ht
   rw [List.getElem?_eq_getElem h5] at e2
   exact Option.some.inj e2
  rw [getElem!_pos (enc x) _ h4]
  simp only [List.getElem_toArray]
  exact e4.symm
end
section
open Go.RowKit
instance : Inhabited (St × Rat) := ⟨((0, 0, false), 0)⟩
section
variable {α:Type} [Inhabited α] (enc:α→List Value) (k:Nat)
theorem o_z2 (w:World) (b off n:Nat) (d:Array α) (os:Array Obj):(sortWorldK enc k w b off n d os).heap=w.heap.modify b (Go.Sort.onCells (Go.Sort.putCells id off (Go.Sort.flatK enc k d)))++os:=rfl
theorem o_z3 (w:World) (b off n:Nat) (d:Array α) (os:Array Obj) {c:Nat} (hc:c<w.heap.size) (h:c≠b):(sortWorldK enc k w b off n d os).heap[c]?=w.heap[c]?:=by
 rw [o_z2,Array.getElem?_append,if_pos (by simpa using hc),Array.getElem?_modify,if_neg (fun e=>h e.symm)]
theorem o_z4 (w:World) (b off n:Nat) (d:Array α) (os:Array Obj) {c:Array Value} {T:TypeId} {fr:Nat×Nat} (h:w.heap[b]?=some (.cells c T fr)) :
  (sortWorldK enc k w b off n d os).heap[b]?=some (.cells (Go.Sort.putCells id off (Go.Sort.flatK enc k d) c) T fr):=by
 have hc:b<w.heap.size:=(Array.getElem?_eq_some_iff.1 h).1
 rw [o_z2,Array.getElem?_append,if_pos (by simpa using hc),Array.getElem?_modify,if_pos rfl,h]
 rfl
theorem o_z5 (w:World) (b off n:Nat) (d:Array α) (os:Array Obj):(sortWorldK enc k w b off n d os).heap.size=w.heap.size+os.size:=by
 rw [o_z2,Array.size_append,Array.size_modify]
end
theorem o_z6 (us vs more:List Value) (h:us.length=vs.length):Go.Sort.putCells id 0 us.toArray (vs++more).toArray=(us++more).toArray:=by
 apply Array.ext_getElem?
 intro j
 rw [Go.Sort.putCells,Array.getElem?_mapIdx]
 simp only [List.getElem?_toArray,List.size_toArray,Nat.zero_le,true_and,Nat.zero_add,Nat.sub_zero]
 by_cases hj:j<us.length
 ·rw [List.getElem?_append_left hj,List.getElem?_append_left (by omega),List.getElem?_eq_getElem hj,List.getElem?_eq_getElem (by omega:j<vs.length)]
  simp [hj]
 ·rw [List.getElem?_append_right (by omega),List.getElem?_append_right (by omega),h]
  cases more[j-vs.length]? with
  | none=>rfl
  | some y=>simp [show ¬j<vs.length by omega]
theorem o_z7 {α:Type} [Inhabited α] (enc:α→List Value) (k:Nat) (w:World) (b n:Nat) (d:Array α) (os:Array Obj) {c:Nat} (hc:c<w.heap.size):(sortWorldK enc k w b 0 n d os).shape? c=w.shape? c:=by
 unfold World.shape?
 by_cases h:c=b
 ·subst h
  rw [o_z2,Array.getElem?_append,if_pos (by simpa using hc),Array.getElem?_modify,if_pos rfl]
  cases h1:w.heap[c]? with
  | none=>rfl
  | some o=>cases o<;>simp [Go.Sort.onCells,Go.Sort.putCells]
 ·rw [o_z3 enc k w b 0 n d os hc h]

theorem o_z8 {W w:World} (l1:w.os=W.os) (l2:w.tape=W.tape) (l3:w.output=W.output) (l4:W.drawn≤w.drawn) (l5:W.heap.size≤w.heap.size) (l6:∀c,c<W.heap.size→w.heap[c]?=W.heap[c]?) :
  w=Go.Sort.grow (W.drewN (w.drawn-W.drawn)) (w.heap.extract W.heap.size w.heap.size):=by
 obtain ⟨w1,w2,w3,w4,w5⟩:=w
 obtain ⟨u1,u2,u3,u4,u5⟩:=W
 simp only at l1 l2 l3 l4 l5 l6
 subst l1 l2 l3
 show World.mk _ _ _ _ _=World.mk _ _ _ _ _
 congr 1
 ·apply Array.ext_getElem?
  intro j
  show w1[j]?=(u1++w1.extract u1.size w1.size)[j]?
  rw [Array.getElem?_append]
  split
  ·exact l6 j (by assumption)
  ·rename_i hj
   rw [Array.getElem?_extract]
   split
   ·congr 1;omega
   ·exact Array.getElem?_eq_none (by omega)
 ·show w3=u3+(w3-u3)
  omega

def cfA {I:Nat→Prop} {w:World} (x y:AtV I w):Int:=ordI x.at y.at
theorem ltA {I:Nat→Prop} {w:World} (x y:AtV I w):ltOf cfA x y=ltS x.at.1 y.at.1:=by
 unfold ltOf cfA
 cases h:ltS x.at.1 y.at.1 with
 | true=>exact decide_eq_true ((o_yb _ _).2 h)
 | false=>exact decide_eq_false fun h1=>by rw [(o_yb _ _).1 h1] at h;cases h
theorem o_z9 (s:St):ltS s s=false:=by
 cases h:ltS s s with
 | false=>rfl
 | true=>simp [ltS] at h
theorem swoA {I:Nat→Prop} {w:World}:Go.Sort.SWO (ltOf (cfA (I:=I) (w:=w))) where
 irrefl x:=by rw [ltA];exact o_z9 _
 trans x y z h1 h2:=by rw [ltA] at *;exact o_vj h1 h2
 ntrans x y z h1 h2:=by rw [ltA] at *;exact o_yw h1 h2

theorem cmpA {m:Mem} (hb:m.base) (b:Nat) (hbI:¬m.I b) (hbs:b<m.w.heap.size) (N:Nat) [Inhabited (AtV m.I m.w)] :
  CmpLays Tryz.prog o_dn #[] (AtV.enc (I:=m.I) (w:=m.w)) 6 cfA b 0 N m.w:=by
 intro n os dk hs x y
 obtain ⟨W,hW⟩:∃W,W=sortWorldK (AtV.enc (I:=m.I) (w:=m.w)) 6 m.w b 0 n dk os:=⟨_,rfl⟩
 rw [←hW]
 have hI:∀c,m.I c→W.heap[c]?=m.w.heap[c]?:=fun c hc=>by rw [hW];exact o_z3 _ _ _ _ _ _ _ _ (hb.imm c hc) fun e=>hbI (e▸hc)
 have hbase:Mem.base ⟨fun _=>none,m.I,W⟩:=⟨fun c hc=>by
   show c<W.heap.size
   rw [hW,o_z5]
   have:=hb.imm c hc
   omega,fun _ _ h=>(by cases h),hb.tabs.mono (fun _ h=>h) hI⟩
 have hx:=D.reps_mono (fun _ h=>h) hI _ _ x.rep
 have hy:=D.reps_mono (fun _ h=>h) hI _ _ y.rep
 have hr:=(o_yn x.at y.at).run ⟨fun _=>none,m.I,W⟩ [.agg x.enc.toArray,.agg y.enc.toArray] hbase
  ⟨_,_,rfl,⟨x.enc,rfl,x.one,hx⟩,_,_,rfl,⟨y.enc,rfl,y.one,hy⟩,rfl⟩ (by simp) (by simp) (by simp)
 have he:=o_6j o_dp #[.agg x.enc.toArray,.agg y.enc.toArray] W
 rcases hr with ⟨v,h1,h2⟩ | ⟨h1,h2⟩
 ·rw [show ([.agg x.enc.toArray,.agg y.enc.toArray]:List Value).toArray = #[.agg x.enc.toArray,.agg y.enc.toArray] from rfl,he] at h1
  cases h1
 ·refine h2.mono ?_
  rintro e w' ⟨v,m',rfl,rfl,h⟩
  refine ⟨by rw [show v = .int .i64 (ordI x.at y.at) from h.rep];rfl,m'.w.drawn-W.drawn,m'.w.heap.extract W.heap.size m'.w.heap.size,?_⟩
  have l1:m'.w.os=W.os:=h.le.os
  have l2:m'.w.tape=W.tape:=h.le.tape
  have l3:m'.w.output=W.output:=h.le.output
  have l4:W.drawn≤m'.w.drawn:=h.le.drawn
  have l5:W.heap.size≤m'.w.heap.size:=h.le.size
  have l6:∀c,c<W.heap.size→m'.w.heap[c]?=W.heap[c]?:=fun c hc=>h.le.block c hc fun n hn=>absurd hn (by simp)
  exact o_z8 l1 l2 l3 l4 l5 l6
end
section
open Go.RowKit
theorem o_za {I:Nat→Prop} {w:World} [Inhabited (AtV I w)] (l:List (AtV I w)) (hn:(l.map fun x=>x.at.1).Nodup) (hs:Go.Sort.SortedIn (ltOf cfA) 0 l.length l.toArray) :
  (l.map AtV.«at»).Pairwise fun a b => ltS a.1 b.1 = true := by
 rw [List.pairwise_map,List.pairwise_iff_getElem]
 intro i j hi hj hij
 have h:=hs i j (Nat.zero_le _) hij hj
 rw [ltA,getElem!_pos l.toArray j (by simpa using hj),getElem!_pos l.toArray i (by simpa using hi),List.getElem_toArray,List.getElem_toArray] at h
 rcases o_vk l[i].at.1 l[j].at.1 with h1 | h1 | h1
 ·exact h1
 ·exfalso
  have:=(List.getElem_inj (h₀:=by simpa using hi) (h₁:=by simpa using hj) hn).1 (by simpa using h1)
  omega
 ·rw [h1] at h;cases h

set_option maxHeartbeats 2000000 in
theorem o_zb (L:Sp) (hu:Uq L) (h0:1≤L.length) (hl:L.length<4611686018427387904) (K:Sp) (hK:SortTo L K) :
  Eqn Tryz.prog o_dm [.own 0 6 L.length,.fn (.func o_dn) []] [⟨54,rowA atomC L⟩] (.tup []) [⟨54,rowA atomC K⟩]:=by
 refine ⟨by simp,by simp,by rfl,by simp [rowA,o_62],?_⟩
 intro m vs hb hv ho hinj htop
 obtain ⟨v1,r1,rfl,hv1,v2,r2,rfl,hv2,rfl⟩:=hv
 obtain ⟨b,t,k,cap,hρ,hsh,rfl,rfl,hcap,hmax⟩:=hv1
 obtain ⟨cs,rfl,rfl⟩:=hv2
 obtain ⟨b',us,more,hρ',hheap,hone,hrep,hnI⟩:=ho 0 _ rfl
 obtain rfl:b=b':=by rw [hρ] at hρ';exact Option.some.inj hρ'
 have hrep':D.reps m.I m.w (L.flatMap atomC) us:=V.reps_map_d.1 hrep
 rw [o_0 (show (54:Nat)<TG by decide)] at hheap
 have hbs:=hb.dom 0 b hρ
 obtain ⟨dl,hd1,hd2⟩:=o_yx L us hrep' hone
 have hlen:dl.length=L.length:=by rw [←hd1];simp
 haveI:Inhabited (AtV m.I m.w):=⟨dl.head fun e=>by rw [e] at hlen;simp at hlen;omega⟩
 have hfl:=o_z1 AtV.enc AtV.len o_yz dl
 have hH:Go.Sort.HoldsK AtV.enc 6 m.w b 0 dl.toArray:=by
  unfold Go.Sort.HoldsK
  rw [hfl,hd2]
  intro j hj
  have hj':j<us.length:=by simpa using hj
  refine ⟨?_,?_⟩
  ·unfold World.cell?
   rw [hheap]
   simp [List.getElem?_append_left hj',hj']
  ·unfold World.frozen?
   simp [hheap]
 have main:=AnyQ.slices_SortFunc (ρ:=renA) sortL 6 aggAtom sizeAtom AtV.enc AtV.len (fun x v hv=>x.one v hv) cfA swoA o_dn #[] b 0 cap dl.toArray m.w (fun vs w=>o_6j o_dp vs w) (cmpA hb b hnI hbs _) hH hbs (by simp;omega)
 refine .inr ⟨sortL.f6.enters rfl _ _,?_⟩
 have e0:(dl.toArray.size:Nat)=L.length:=by simp [hlen]
 rw [e0] at main
 refine main.mono ?_
 rintro e w' ⟨rfl,d',n,os,hp,hs,rfl⟩
 obtain ⟨l',rfl⟩:∃l':List (AtV m.I m.w),d'=l'.toArray:=⟨d'.toList,by simp⟩
 have hl':l'.length=dl.length:=by have:=hp.1;simpa using this
 have hp':l'.Perm dl:=by
  have:=hp.2.2
  rw [←e0] at this
  have h2:(List.take dl.length l').Perm dl:=by simpa using this
  rwa [←hl',List.take_length] at h2
 have hfl':=o_z1 AtV.enc AtV.len o_yz l'
 have hus:(l'.flatMap AtV.enc).length=us.length:=by rw [←hd2,o_yz,o_yz,hl']
 have hnod:(l'.map fun x=>x.at.1).Nodup:=by
  have:(dl.map fun x=>x.at.1)=L.map (·.1):=by rw [←hd1,List.map_map];rfl
  rw [(hp'.map _).nodup_iff,this];exact hu
 have hKe : l'.map AtV.«at» = K := hK _ (by rw [← hd1]; exact hp'.map _) (o_za l' hnod (by rw [hl', hlen]; exact hs))
 have hblk:=o_z4 AtV.enc 6 m.w b 0 n l'.toArray os hheap
 rw [hfl',o_z6 _ _ _ hus] at hblk
 obtain ⟨W,hW⟩:∃W,W=sortWorldK AtV.enc 6 m.w b 0 n l'.toArray os:=⟨_,rfl⟩
 have hne:∀c,c<m.w.heap.size→c≠b→W.heap[c]?=m.w.heap[c]?:=fun c hc h=>by rw [hW];exact o_z3 _ _ _ _ _ _ _ _ hc h
 have hsz:m.w.heap.size≤W.heap.size:=by rw [hW,o_z5];omega
 have hshp:∀c,c<m.w.heap.size→W.shape? c=m.w.shape? c:=fun c hc=>by rw [hW];exact o_z7 _ _ _ _ _ _ _ hc
 have hI:∀c,m.I c→W.heap[c]?=m.w.heap[c]?:=fun c hc=>hne c (hb.imm c hc) fun e=>hnI (e▸hc)
 have l1:W.os=m.w.os:=by rw [hW];rfl
 have l2:W.tape=m.w.tape:=by rw [hW];rfl
 have l3:W.output=m.w.output:=by rw [hW];rfl
 have l4:m.w.drawn≤W.drawn:=by rw [hW];exact Nat.le_add_right _ _
 rw [←hW] at hblk ⊢
 have hle:m.le ⟨m.ρ,m.I,W⟩ (· < 1):=⟨fun _ _ h=>h,fun _ h=>h,l1,l2,l3,l4,hsz,fun c hc h=>hne c hc fun e=>h 0 (by decide) (by rw [e];exact hρ),hshp,hI,fun _ h=>.inl h,fun _ _ h=>.inl h⟩
 refine ⟨.tuple #[],⟨m.ρ,m.I,W⟩,rfl,rfl,⟨fun c hc=>Nat.lt_of_lt_of_le (hb.imm c hc) hsz,fun i c hc=>Nat.lt_of_lt_of_le (hb.dom i c hc) hsz,hb.tabs.mono (fun _ h=>h) hI⟩,hle,⟨[],rfl,rfl⟩,?_,?_,?_,?_⟩
 ·intro i ob _ hob
  match i,hob with
  | 0,hob =>
   simp only [List.getElem?_cons_zero,Option.some.injEq] at hob
   subst hob
   refine ⟨b,l'.flatMap AtV.enc,more,hρ,?_,?_,?_,hnI⟩
   ·rw [o_0 (show (54:Nat)<TG by decide)];exact hblk
   ·intro u hu
    rw [List.mem_flatMap] at hu
    obtain ⟨x,_,hx⟩:=hu
    exact x.one u hx
   ·refine V.reps_map_d.2 (D.reps_mono (fun _ h=>h) hI _ _ ?_)
    rw [←hKe]
    exact o_yy l'
  | i+1,hob=>simp at hob
 ·intro i j c _ _ hi hj _ _
  simp at hi hj
  omega
 ·intro i hi;exact htop i (by simpa using hi)
 ·intro i c hi hc
  rw [show (⟨m.ρ,m.I,W⟩:Mem).ρ i=m.ρ i from rfl,htop i (by simpa using hi)] at hc
  cases hc
end
section
open Go.RowKit
@[simp] theorem o_zc (n s:Nat) (ds l:List D):V.frzs n s ds (l.map V.d)=l.map V.d:=by
 rw [o_59,List.map_map]
 apply List.map_congr_left
 intro x _
 simp
def slM (l:Sp) (σ:List Nat):List V:=setS (List.replicate 26 .junk) [(0,.mp 0),(3,if (metQ l σ).length=0 then .d .nilsl else .own 2 6 (metQ l σ).length),(7,.p 1 0)]
def hpM (l:Sp) (σ:List Nat):List (Option Ob):=[some (spO l),some ⟨1000000,.mp 0::.d (.int .i64 (l.length:Nat))::seenV σ⟩]++if (metQ l σ).length=0 then [] else [some ⟨54,rowA atomC (metQ l σ)⟩]
theorem o_zd (q:Rat):(cmpQ q 0≠0)↔q≠0:=by
 unfold cmpQ
 by_cases h1:q<0
 ·rw [if_pos h1];constructor
  ·intro _ h;subst h;exact absurd h1 (by decide)
  ·intro _ h;cases h
 ·rw [if_neg h1]
  by_cases h2:0<q
  ·rw [if_pos h2];constructor
   ·intro _ h;subst h;exact absurd h2 (by decide)
   ·intro _ h;cases h
  ·rw [if_neg h2];constructor
   ·intro h;exact absurd rfl h
   ·intro h;exact absurd (Rat.le_antisymm (Rat.not_lt.1 h2) (Rat.not_lt.1 h1)) h
set_option maxHeartbeats 4000000 in
theorem o_ze (l:Sp) (hu:Uq l) (h0:nzQ l≠[]) (hl:l.length≤1000000) (hr:∀p∈l,RS p.2 100000):Eqn Tryz.prog o_aj [.mp 0] [spO l] (.d (.sl (atQ l).length (spD rcD (atQ l)))) [spO l]:=by
 refine Eqn.gen [0] o_al (by simp) (by simp) (by rfl) (by decide) (by simp) (by simp [spO]) ?_
 have hn:=o_v5 rcD (fun _=>rfl) l
 refine cc (c':=?z187) ?_ ?_
 case refine_1=>cbv<;>exact rfl
 try simp only [spO]
 refine A10 hn ?_;try with_reducible exact tt
 refine AW.loopG (α:=List Nat) (fun σ=>slM l σ) (fun σ=>hpM l σ) (fun σ=>σ.Nodup∧∀i∈σ,i<l.length) (fun σ=>l.length-σ.length) [] ?_ ⟨by simp,by simp⟩ ?_ ?_ ?_
 ·intro σ _;unfold hpM;split<;>simp [spO]
 ·simp [slM,hpM,metQ]
 ·simp [hpM,metQ,spO,hn,o_ys]
 rintro σ ⟨hnd,hlt⟩
 have hbnd:σ.length≤l.length:=by
  have h2:σ.length≤(List.range l.length).length:=hnd.length_le_of_subset fun i hi=>List.mem_range.2 (hlt i hi)
  simpa using h2
 have ent:∀i (hi:i<l.length),∃(s1 s2:Nat) (s3:Bool) (q:Rat) (N1 N2 N3:D),l[i]=((s1,s2,s3),q)∧rcD q=[N1,N2,N3]∧RS q 100000∧((spD rcD l).drop (i*6)).take 3=[.int .i64 s1,.int .i64 s2,.bool s3]∧((spD rcD l).drop (i*6+3)).take 3=[N1,N2,N3]:=by
  intro i hi
  obtain ⟨⟨⟨s1,s2,s3⟩,q⟩,hp⟩:∃p,l[i]=p:=⟨_,rfl⟩
  have h6:=o_6r (n:=6) (f:=atomC) o_yl l i hi
  rw [hp,←o_ym] at h6
  have h1:((spD rcD l).drop (i*6)).take 3=(((spD rcD l).drop (i*6)).take 6).take 3:=by rw [List.take_take];rfl
  have h2:((spD rcD l).drop (i*6+3)).take 3=(((spD rcD l).drop (i*6)).take 6).drop 3:=by rw [←List.drop_drop];simp [List.drop_take]
  refine ⟨s1,s2,s3,q,_,_,_,hp,rfl,hr ((s1,s2,s3),q) (by have:=List.getElem_mem hi;rw [hp] at this;exact this),?_,?_⟩
  ·rw [h1,h6];rfl
  ·rw [h2,h6];rfl
 have allp:(∀i,i<l.length→i∈σ)→σ.Perm (List.range l.length):=fun hall=>(List.perm_ext_iff_of_nodup hnd List.nodup_range).2 fun i=>⟨fun h=>List.mem_range.2 (hlt i h),fun h=>hall i (List.mem_range.1 h)⟩
 have ho:=rof0
 have h12:(nzQ l).length≤1000000:=Nat.le_trans (List.length_filter_le _ _) hl
 by_cases m0:(metQ l σ).length=0
 ·have mz:metQ l σ=[]:=List.eq_nil_of_length_eq_zero m0
  rw [slM,hpM,if_pos m0,if_pos m0]
  simp [spO]
  refine A10 hn ?_;try with_reducible exact tt
  refine ⟨fun i hi hin=>?_,fun hall=>?_⟩
  ·obtain ⟨s1,s2,s3,q,N1,N2,N3,hp,hN,hq,hK,hV⟩:=ent i hi
   have hc:=o_t1 q 0 hq (show RS (0:Rat) 100000 from ⟨by decide,by decide⟩)
   have hms:=o_yt l σ i hi
   rw [hp] at hms
   have hR:(σ++[i]).Nodup∧∀j∈σ++[i],j<l.length:=by
    refine ⟨by rw [List.nodup_append];exact ⟨hnd,by simp,fun a ha b hb e=>by simp at hb;subst hb;exact hin (e▸ha)⟩,fun j hj=>?_⟩
    rcases List.mem_append.1 hj with hj | hj
    ·exact hlt j hj
    ·simp at hj;subst hj;exact hi
   have hl1:(σ++[i]).length≤l.length:=by
    have h2:(σ++[i]).length≤(List.range l.length).length:=hR.1.length_le_of_subset fun j hj=>List.mem_range.2 (hR.2 j hj)
    simpa using h2
   rw [List.length_append,List.length_singleton] at hl1
   have hz0:rcD 0=[natW 0,.bool false,natW 0]:=rfl
   rw [o_x5,o_x5,hN] at hc
   rw [o_x5] at ho
   rw [hz0] at hc ho
   refine A10 (fs hi (fs hn (fs hK hV))) ?_;try with_reducible exact tt
   refine CallS.pu (ho) (R1 (fs hi (fs hn (fs hK hV))) ?_);try with_reducible exact tt
   refine CallS.pu (hc) (R0 ?_);try with_reducible exact tt
   by_cases hq0:q=0
   ·have hc0:cmpQ q 0=0:=Classical.byContradiction fun h=>(o_zd q).1 h hq0
    refine A10 hc0 ?_;try with_reducible exact tt
    have e':metQ l (σ++[i])=[]:=by rw [hms,mz];simp [hq0]
    refine ⟨σ++[i],1,1,⟨by omega,by omega,by omega,by omega⟩,hR,by simp;omega,?_,?_⟩
    ·simp [slM,hpM,e',spO,swT,swH,sw,Ob.sw,V.ren,V.rens]
    ·simp [slM,hpM,e',spO,swT,swH,sw,Ob.sw,V.ren,V.rens]
   ·have hc0:¬cmpQ q 0=0:=(o_zd q).2 hq0
    refine A10 hc0 ?_;try with_reducible exact tt
    have e':metQ l (σ++[i])=[((s1,s2,s3),q)]:=by rw [hms,mz];simp [hq0]
    refine ⟨σ++[i],2,5,⟨by omega,by omega,by omega,by omega⟩,hR,by simp;omega,?_,?_⟩
    ·simp [slM,hpM,e',spO,swT,swH,sw,Ob.sw,V.ren,V.rens]
    ·simp [slM,hpM,e',spO,swT,swH,sw,Ob.sw,V.ren,V.rens,rowA,atomC,stD,hN]
  ·exfalso
   have hp:=o_yu l σ (allp hall)
   rw [mz] at hp
   exact h0 (List.Perm.eq_nil hp.symm)
 ·obtain ⟨M,hM⟩:∃M,M=metQ l σ:=⟨_,rfl⟩
  have hMl:=o_yd o_yl M
  rw [slM,hpM,if_neg m0,if_neg m0]
  rw [←hM] at m0 ⊢
  have hmp:0<M.length:=by omega
  have hmM:M.length≤l.length:=by
   rw [hM]
   have key:∀τ:List Nat,(metQ l τ).length≤τ.length:=by
    intro τ
    induction τ with
    | nil=>simp [metQ]
    | cons j τ ih =>
     have:metQ l (j::τ)=(match l[j]? with | some p=>if p.2=0 then [] else [p] | none=>[])++metQ l τ:=by unfold metQ;exact List.flatMap_cons
     rw [this,List.length_append]
     have h1:(match l[j]? with | some p=>if p.2=0 then [] else [p] | none=>[]:Sp).length≤1:=by
      split
      ·split<;>simp
      ·simp
     simp only [List.length_cons];omega
   exact Nat.le_trans (key σ) hbnd
  simp [spO]
  refine A10 hn ?_;try with_reducible exact tt
  refine ⟨fun i hi hin=>?_,fun hall=>?_⟩
  ·obtain ⟨s1,s2,s3,q,N1,N2,N3,hp,hN,hq,hK,hV⟩:=ent i hi
   have hc:=o_t1 q 0 hq (show RS (0:Rat) 100000 from ⟨by decide,by decide⟩)
   have hms:=o_yt l σ i hi
   rw [hp,←hM] at hms
   have hR:(σ++[i]).Nodup∧∀j∈σ++[i],j<l.length:=by
    refine ⟨by rw [List.nodup_append];exact ⟨hnd,by simp,fun a ha b hb e=>by simp at hb;subst hb;exact hin (e▸ha)⟩,fun j hj=>?_⟩
    rcases List.mem_append.1 hj with hj | hj
    ·exact hlt j hj
    ·simp at hj;subst hj;exact hi
   have hl1:(σ++[i]).length≤l.length:=by
    have h2:(σ++[i]).length≤(List.range l.length).length:=hR.1.length_le_of_subset fun j hj=>List.mem_range.2 (hR.2 j hj)
    simpa using h2
   rw [List.length_append,List.length_singleton] at hl1
   have hz0:rcD 0=[natW 0,.bool false,natW 0]:=rfl
   rw [o_x5,o_x5,hN] at hc
   rw [o_x5] at ho
   rw [hz0] at hc ho
   refine A10 (fs hi (fs hn (fs hK hV))) ?_;try with_reducible exact tt
   refine CallS.pu (ho) (R1 (fs hi (fs hn (fs hK hV))) ?_);try with_reducible exact tt
   refine CallS.pu (hc) (R0 ?_);try with_reducible exact tt
   by_cases hq0:q=0
   ·have hc0:cmpQ q 0=0:=Classical.byContradiction fun h=>(o_zd q).1 h hq0
    refine A10 hc0 ?_;try with_reducible exact tt
    have e':metQ l (σ++[i])=M:=by rw [hms];simp [hq0]
    refine ⟨σ++[i],2,2,⟨by omega,by omega,by omega,by omega⟩,hR,by simp;omega,?_,?_⟩
    ·simp [slM,hpM,e',m0,spO,swT,swH,sw,Ob.sw,V.ren,V.rens]
    ·simp [slM,hpM,e',m0,spO,swT,swH,sw,Ob.sw,V.ren,V.rens]
   ·have hc0:¬cmpQ q 0=0:=(o_zd q).2 hq0
    refine A10 (fs hc0 hMl) ?_;try with_reducible exact tt
    have e':metQ l (σ++[i])=M++[((s1,s2,s3),q)]:=by rw [hms];simp [hq0]
    have e2:rowA atomC (M++[((s1,s2,s3),q)])=rowA atomC M++[.d (.int .i64 s1),.d (.int .i64 s2),.d (.bool s3),.d N1,.d N2,.d N3]:=by rw [o_yg];simp [rowA,atomC,stD,hN]
    refine ⟨σ++[i],2,6,⟨by omega,by omega,by omega,by omega⟩,hR,by simp;omega,?_,?_⟩
    ·simp [slM,hpM,e',spO,swT,swH,sw,Ob.sw,V.ren,V.rens]
    ·simp [slM,hpM,e',spO,swT,swH,sw,Ob.sw,V.ren,V.rens,←e2]
  ·have hp:=o_yu l σ (allp hall)
   rw [←hM] at hp
   have hMl2:M.length=(atQ l).length:=by rw [hp.length_eq,(o_vn l).length_eq]
   have hso:=o_zb M (by unfold Uq;exact (hp.map _).nodup_iff.2 (o_vp hu)) hmp (by rw [hp.length_eq];omega) (atQ l) (o_yv l M hu hp)
   have hal:(spD rcD (atQ l)).length=(atQ l).length*6:=o_v5 rcD (fun _=>rfl) _
   have htk:(spD rcD (atQ l)).take ((atQ l).length*6)=spD rcD (atQ l):=List.take_of_length_le (by omega)
   rw [hMl2] at hso ⊢
   refine A00 ?_;try with_reducible exact tt
   refine CallS.g [2] hso ?_
   simp
   refine AW.freeze 2 6 ⟨54,rowA atomC (atQ l)⟩ (spD rcD (atQ l)) (by simp) rfl ?_
   simp [frzH,htk]
   refine A10 htk ?_;try with_reducible exact tt
theorem o_zf (l:Sp) (hu:Uq l) (h0:nzQ l≠[]) (h12:(nzQ l).length≤40) (hl:l.length≤1000000) (hr:∀p∈l,RS p.2 100000):Eqn Tryz.prog o_aj [.mp 0] [spO l] (.d (.sl (atQ l).length (spD rcD (atQ l)))) [spO l]:=o_ze l hu h0 hl hr
end
section
open Go.RowKit
theorem o_zg (s:St):∀l:Wm,getN s (touN l s)=getN s l
 | []=>by simp [touN,getN]
 | p::l=>by
  unfold touN
  by_cases e:s=p.1
  ·simp [e]
  ·simp [e,getN,o_zg s l]
theorem map_set {n k:Nat} {f:Nat→V} {x:V}:((List.range n).map f).set k x=(List.range n).map fun s=>if s=k then x else f s:=by
 apply List.ext_getElem?
 intro i
 rw [List.getElem?_set,List.getElem?_map,List.getElem?_map]
 by_cases h:i<n
 ·rw [List.getElem?_range h]
  by_cases e:k=i
  ·subst e;simp [h]
  ·simp [e,show ¬i=k from fun e'=>e e'.symm]
 ·rw [List.getElem?_eq_none (by simpa using h)]
  simp
  omega
theorem o_zh {n s:Nat} {f:Nat→V} (h:s<n):((List.range n).map f).getD s .junk=f s:=by
 rw [List.getD_eq_getElem?_getD,List.getElem?_map,List.getElem?_range h];rfl
theorem map_id {T:List V}:(List.range T.length).map (fun s=>T.getD s .junk)=T:=by
 apply List.ext_getElem?
 intro i
 rw [List.getElem?_map]
 by_cases h:i<T.length
 ·rw [List.getElem?_range h];simp [List.getD_eq_getElem?_getD,h]
 ·rw [List.getElem?_eq_none (by simpa using h),List.getElem?_eq_none (by omega)];rfl
def osW:List O:=[⟨some 57,.load false 1 (.t 4),none,[]⟩,⟨some 58,.load true 3 (.t 7),none,[]⟩,⟨some 59,.mget 1000386 [0,0,1] 1 false [.int .i64 0] (.t 57) (.t 58),none,[0,1]⟩,⟨some 60,.mv (.t 9),none,[]⟩,⟨some 61,.bin .add (.t 59) (.t 60),none,[2,3]⟩,⟨some 62,.ment 1000386 [0,0,1] 1 false [.int .i64 0] (.t 57) (.t 58),none,[0,1,0,1,3]⟩,⟨some 63,.ext (.t 62) 1,none,[5]⟩,⟨none,.esto 1000386 [0,0,1] 1 false (.t 57) (.t 63) (.t 61),none,[0,6,4,5,0,1,2,3,4,5,6]⟩]
section
variable (T:List V) (s1 s2:Nat) (s3:Bool) (Lm:Wm) (w:Nat)
def fW (S:Nat→Bool) (s:Nat):V :=
 if s=57 then (if S 0 then .mp 5 else T.getD s .junk) else if s=58 then (if S 1 then .d (.agg [.int .i64 s1,.int .i64 s2,.bool s3]) else T.getD s .junk)
 else if s=59 then (if S 2 then .d (.int .i64 (getN (s1,s2,s3) Lm:Nat)) else T.getD s .junk) else if s=60 then (if S 3 then .d (.int .i64 w) else T.getD s .junk)
 else if s=61 then (if S 4 then .d (.int .i64 (getN (s1,s2,s3) Lm+w:Nat)) else T.getD s .junk) else if s=62 then (if S 5 then .tup [.d (.int .i64 (getN (s1,s2,s3) Lm:Nat)),.d (.int .i64 (posN (s1,s2,s3) Lm:Nat))] else T.getD s .junk)
 else if s=63 then (if S 6 then .d (.int .i64 (posN (s1,s2,s3) Lm:Nat)) else T.getD s .junk) else T.getD s .junk
def hW (H:List (Option Ob)) (S:Nat→Bool):List (Option Ob):=H.set 5 (some ⟨1000386,(spN (if S 7 then addN Lm (s1,s2,s3) w else if S 5 then touN Lm (s1,s2,s3) else Lm)).map .d⟩)
def gW (S:Nat→Bool):Prop:=(S 7=true→S 2=true∧S 6=true∧S 5=true∧S 4=true)∧(S 6=true→S 5=true)∧(S 4=true→S 2=true∧S 3=true)
end
set_option maxHeartbeats 4000000 in
theorem regW {L:Nat} {Q:Exit→List V→List (Option Ob)→Prop} {T:List V} {H:List (Option Ob)} {s1 s2 w:Nat} {s3:Bool} {Lm:Wm} {T0 T1:TypeId} (hT:T.length=64) (h4:T.getD 4 .junk = .p 3 0) (h7:T.getD 7 .junk = .p 10 0) (h9:T.getD 9 .junk = .d (.int .i64 w)) (t0:T0<1000000) (t1:T1<1000000)
  (H3:H.getD 3 none=some ⟨T0,[.mp 5]⟩) (H10:H.getD 10 none=some ⟨T1,[.d (.int .i64 s1),.d (.int .i64 s2),.d (.bool s3)]⟩) (H5:H.getD 5 none=some ⟨1000386,(spN Lm).map .d⟩) (hw:getN (s1,s2,s3) Lm+w≤2^50)
  (hQ:∀T',T'.length=64→Q .normal T' (H.set 5 (some ⟨1000386,(spN (addN Lm (s1,s2,s3) w)).map .d⟩))):AW Tryz.prog L (.reg true osW) Q T H:=by
 have hlen:5<H.length:=by
  rcases Nat.lt_or_ge 5 H.length with h | h
  ·exact h
  ·rw [List.getD_eq_getElem?_getD,List.getElem?_eq_none h] at H5;cases H5
 have hH:∀S k,k≠5→(hW s1 s2 s3 Lm w H S).getD k none=H.getD k none:=fun S k hk=>by unfold hW;rw [o_n,if_neg (by omega)]
 have hH5:∀S,(hW s1 s2 s3 Lm w H S).getD 5 none=some ⟨1000386,(spN (if S 7 then addN Lm (s1,s2,s3) w else if S 5 then touN Lm (s1,s2,s3) else Lm)).map .d⟩:=fun S=>by unfold hW;rw [o_n,if_pos ⟨rfl,hlen⟩]
 refine AW.regF mix (fun S=>(List.range 64).map (fW T s1 s2 s3 Lm w S)) (hW s1 s2 s3 Lm w H) gW (by rfl) ?_ ?_ (fun S=>by unfold hW;simp) (by unfold gW;simp) ?_ ?_
 ·have:fW T s1 s2 s3 Lm w (fun _=>false)=fun s=>T.getD s .junk:=by funext s;unfold fW;simp
  rw [this,←hT];exact map_id
 ·unfold hW
  simp only [Bool.false_eq_true,if_false]
  apply List.ext_getElem?
  intro i
  rw [List.getElem?_set]
  by_cases e:5=i
  ·subst e
   rw [List.getD_eq_getElem?_getD,List.getElem?_eq_getElem hlen] at H5
   simp only [Option.getD_some] at H5
   simp [hlen,H5]
  ·simp [e]
 ·intro S i o hS ho hSi haf
  obtain ⟨g1,g2,g3⟩:=hS
  have hget:∀s,s<64→((List.range 64).map (fW T s1 s2 s3 Lm w S)).getD s .junk=fW T s1 s2 s3 Lm w S s:=fun s hs=>o_zh hs
  have f4:fW T s1 s2 s3 Lm w S 4 = .p 3 0:=by unfold fW;simpa [-List.getD_eq_getElem?_getD] using h4
  have f7:fW T s1 s2 s3 Lm w S 7 = .p 10 0:=by unfold fW;simpa [-List.getD_eq_getElem?_getD] using h7
  have f9:fW T s1 s2 s3 Lm w S 9 = .d (.int .i64 w):=by unfold fW;simpa [-List.getD_eq_getElem?_getD] using h9
  have e3:=(hH S 3 (by omega)).trans H3
  have e10:=(hH S 10 (by omega)).trans H10
  have e5:=hH5 S
  have hfT:∀i d x,d<64→(∀s,fW T s1 s2 s3 Lm w (more S i) s=if s=d then x else fW T s1 s2 s3 Lm w S s)→((List.range 64).map (fW T s1 s2 s3 Lm w (more S i)))=putT ((List.range 64).map (fW T s1 s2 s3 Lm w S)) (some d) x:=fun i d x hd hs=>by
   show _=List.set _ d x
   rw [map_set]
   congr 1
   funext s
   exact hs s
  have hHe:∀i,i≠5→i≠7→hW s1 s2 s3 Lm w H (more S i)=hW s1 s2 s3 Lm w H S:=fun i h5 h7=>by
   have a:more S i 7=S 7:=by unfold more;simp;omega
   have b:more S i 5=S 5:=by unfold more;simp;omega
   unfold hW;rw [a,b]
  have hmo:∀i k,k≠i→more S i k=S k:=fun i k hk=>by unfold more;simp [hk]
  have hms:∀i,more S i i=true:=fun i=>by unfold more;simp
  have hi8:i<8:=by
   rcases Nat.lt_or_ge i 8 with h | h
   ·exact h
   ·rw [List.getElem?_eq_none (by simpa [osW] using h)] at ho;cases ho
  rcases (by omega:i=0∨i=1∨i=2∨i=3∨i=4∨i=5∨i=6∨i=7) with rfl | rfl | rfl | rfl | rfl | rfl | rfl | rfl<;>simp only [osW,List.getElem?_cons_zero,List.getElem?_cons_succ,Option.some.injEq] at ho<;>subst ho
  ·refine ⟨by simp [gW,more];grind,?_⟩
   simp only [A.step,X.ev,hget 4 (by omega),f4,e3]
   refine ⟨t0,⟨by simp,(hHe 0 (by omega) (by omega)).symm,hfT 0 57 _ (by omega) fun s=>?_⟩⟩
   unfold fW;simp only [more];by_cases hs:s=57<;>simp [hs]
  ·refine ⟨by simp [gW,more];grind,?_⟩
   simp only [A.step,X.ev,hget 7 (by omega),f7,e10]
   refine ⟨t1,⟨by simp,(hHe 1 (by omega) (by omega)).symm,hfT 1 58 _ (by omega) fun s=>?_⟩⟩
   unfold fW;simp only [more];by_cases hs:s=58<;>simp [hs]
  ·have s0:S 0=true:=haf 0 (by simp)
   have sb:S 1=true:=haf 1 (by simp)
   have s7:S 7=false:=by cases h:S 7 with | false=>rfl | true=>rw [(g1 h).1] at hSi;cases hSi
   have f57:fW T s1 s2 s3 Lm w S 57 = .mp 5:=by unfold fW;simp [s0]
   have f58:fW T s1 s2 s3 Lm w S 58 = .d (.agg [.int .i64 s1,.int .i64 s2,.bool s3]):=by unfold fW;simp [sb]
   rw [s7] at e5
   refine ⟨by simp [gW,more];grind,?_⟩
   have hml:mlook [0,0,1] 1 false [.int .i64 0] [.int .i64 s1,.int .i64 s2,.bool s3] (spN (if S 5=true then touN Lm (s1,s2,s3) else Lm))=some (.int .i64 (getN (s1,s2,s3) Lm:Nat)):=by
    cases S 5 with
    | true=>have:=o_xy (s1,s2,s3) (touN Lm (s1,s2,s3));rw [o_zg] at this;exact this
    | false=>exact o_xy (s1,s2,s3) Lm
   simp only [Bool.false_eq_true,if_false] at e5
   simp only [A.step,X.ev,hget 57 (by omega),hget 58 (by omega),f57,f58,e5,o_v2,hml]
   refine ⟨trivial,rfl,(hHe 2 (by omega) (by omega)).symm,hfT 2 59 _ (by omega) fun s=>?_⟩
   unfold fW;simp only [more];by_cases hs:s=59<;>simp [hs]
  ·refine ⟨by simp [gW,more];grind,?_⟩
   simp only [A.step,X.ev,hget 9 (by omega),f9]
   refine ⟨(hHe 3 (by omega) (by omega)).symm,hfT 3 60 _ (by omega) fun s=>?_⟩
   unfold fW;simp only [more];by_cases hs:s=60<;>simp [hs]
  ·have s2':S 2=true:=haf 2 (by simp)
   have s3':S 3=true:=haf 3 (by simp)
   have f59:fW T s1 s2 s3 Lm w S 59 = .d (.int .i64 (getN (s1,s2,s3) Lm:Nat)):=by unfold fW;simp [s2']
   have f60:fW T s1 s2 s3 Lm w S 60 = .d (.int .i64 w):=by unfold fW;simp [s3']
   have ew:IntKind.i64.wrap ((getN (s1,s2,s3) Lm:Int)+(w:Int))=((getN (s1,s2,s3) Lm+w:Nat):Int):=by rw [w64 (by omega) (by omega)];omega
   refine ⟨by simp [gW,more];grind,?_⟩
   simp only [A.step,X.ev,hget 59 (by omega),hget 60 (by omega),f59,f60,binInt,ew]
   refine ⟨trivial,(hHe 4 (by omega) (by omega)).symm,hfT 4 61 _ (by omega) fun s=>?_⟩
   unfold fW;simp only [more];by_cases hs:s=61<;>simp [hs]
  ·have s0:S 0=true:=haf 0 (by simp)
   have sb:S 1=true:=haf 1 (by simp)
   have s7:S 7=false:=by cases h:S 7 with | false=>rfl | true=>rw [(g1 h).2.2.1] at hSi;cases hSi
   have f57:fW T s1 s2 s3 Lm w S 57 = .mp 5:=by unfold fW;simp [s0]
   have f58:fW T s1 s2 s3 Lm w S 58 = .d (.agg [.int .i64 s1,.int .i64 s2,.bool s3]):=by unfold fW;simp [sb]
   rw [s7,hSi] at e5
   simp only [Bool.false_eq_true,if_false] at e5
   refine ⟨by simp [gW,more];grind,?_⟩
   have hM:mentD [0,0,1] 1 false [.int .i64 0] [.int .i64 s1,.int .i64 s2,.bool s3] (spN Lm)=some (.int .i64 (getN (s1,s2,s3) Lm),posN (s1,s2,s3) Lm,spN (touN Lm (s1,s2,s3))):=o_xz (s1,s2,s3) Lm
   simp only [A.step,X.ev,hget 57 (by omega),hget 58 (by omega),f57,f58,e5,o_v2,hM]
   refine ⟨trivial,rfl,⟨by rw [o_xo];simp,?_,hfT 5 62 _ (by omega) fun s=>?_⟩⟩
   ·unfold hW
    rw [List.set_set]
    simp [more,s7]
   ·unfold fW;simp only [more];by_cases hs:s=62<;>simp [hs]
  ·have s5:S 5=true:=haf 5 (by simp)
   have f62:fW T s1 s2 s3 Lm w S 62 = .tup [.d (.int .i64 (getN (s1,s2,s3) Lm:Nat)),.d (.int .i64 (posN (s1,s2,s3) Lm:Nat))]:=by unfold fW;simp [s5]
   refine ⟨by simp [gW,more];grind,?_⟩
   simp only [A.step,X.ev,hget 62 (by omega),f62]
   refine ⟨by simp,(hHe 6 (by omega) (by omega)).symm,hfT 6 63 _ (by omega) fun s=>?_⟩
   unfold fW;simp only [more];by_cases hs:s=63<;>simp [hs]
  ·have s0:S 0=true:=haf 0 (by simp)
   have s4:S 4=true:=haf 4 (by simp)
   have s5:S 5=true:=haf 5 (by simp)
   have s6:S 6=true:=haf 6 (by simp)
   have s2':S 2=true:=haf 2 (by simp)
   have f57:fW T s1 s2 s3 Lm w S 57 = .mp 5:=by unfold fW;simp [s0]
   have f63:fW T s1 s2 s3 Lm w S 63 = .d (.int .i64 (posN (s1,s2,s3) Lm:Nat)):=by unfold fW;simp [s6]
   have f61:fW T s1 s2 s3 Lm w S 61 = .d (.int .i64 (getN (s1,s2,s3) Lm+w:Nat)):=by unfold fW;simp [s4]
   rw [hSi,s5] at e5
   simp only [Bool.false_eq_true,if_false,if_true] at e5
   refine ⟨by simp [gW,more];grind,?_⟩
   have hE:estoD [0,0,1].length 1 ((posN (s1,s2,s3) Lm:Int)).toNat (D.int .i64 (getN (s1,s2,s3) Lm+w:Nat)).cells (spN (touN Lm (s1,s2,s3)))=spN (addN Lm (s1,s2,s3) w):=by
    rw [Int.toNat_natCast]
    exact o_y3 (s1,s2,s3) Lm (getN (s1,s2,s3) Lm+w)
   simp only [A.step,X.ev,hget 57 (by omega),hget 63 (by omega),hget 61 (by omega),f57,f63,f61,e5,o_v2,hE]
   refine ⟨trivial,rfl,⟨⟨rfl,by omega,by rw [Int.toNat_natCast];exact o_y4 Lm (s1,s2,s3)⟩,?_,?_⟩⟩
   ·unfold hW
    rw [List.set_set]
    simp [more]
   ·show _=(List.range 64).map (fW T s1 s2 s3 Lm w S)
    congr 1
    funext s
    unfold fW
    simp [more]
 ·intro S hS hall
  have h7':S 7=true:=hall 7 (by simp [osW])
  have e:hW s1 s2 s3 Lm w H S=H.set 5 (some ⟨1000386,(spN (addN Lm (s1,s2,s3) w)).map .d⟩):=by unfold hW;rw [if_pos h7']
  rw [e]
  exact hQ _ (by simp)
end
section
open Go.RowKit
def wtH (A:FuncId) (T6 T7 T8:TypeId) (c6 c7 c8:List D) (X:Wm×Nat):List Ob :=
 [⟨40,[.fn (.func A) [.p 6 0,.p 7 0,.p 8 0]]⟩,⟨3,[.d (.int .i64 11)]⟩,⟨61,[.fn (.func o_8y) [.p 0 0,.p 1 0,.p 2 0,.p 3 0,.p 4 0]]⟩,⟨31,[.mp 5]⟩,⟨3,[.d (.int .i64 X.2)]⟩,⟨1000386,(spN X.1).map .d⟩,⟨T6,c6.map .d⟩,⟨T7,c7.map .d⟩,⟨T8,c8.map .d⟩]
structure AskOK (A:FuncId) (T6 T7 T8:TypeId) (c6 c7 c8:List D) (ask:List Bool→St×Int):Prop where
 t6:T6<1000000
 t7:T7<1000000
 t8:T8<1000000
 run:∀cs:List Bool,cs.length≤20→∃p dd,Eqn Tryz.prog A [.p 0 0,.p 1 0,.p 2 0,.p 3 0] [tapeO cs 0 false,⟨T6,c6.map .d⟩,⟨T7,c7.map .d⟩,⟨T8,c8.map .d⟩] (.tup [.d (.agg (stD (ask cs).1)),.d (.int .i64 (ask cs).2)]) [tapeO cs p dd,⟨T6,c6.map .d⟩,⟨T7,c7.map .d⟩,⟨T8,c8.map .d⟩]
set_option maxHeartbeats 8000000 in
theorem o_zi {A:FuncId} {T6 T7 T8:TypeId} {c6 c7 c8:List D} {ask:List Bool→St×Int} (h:AskOK A T6 T7 T8 c6 c7 c8 ask) (d:Nat) (ih:d≠0→∀(pre:List Bool) (X:Wm×Nat),pre.length+(d-1)=11→X.2+2^(d-1)≤2^40→(∀s,getN s X.1+2^(d-1)≤2^40) →
  Eqn Tryz.prog o_8y [.d (.sl pre.length (pre.map .bool)),.p 0 0,.p 1 0,.p 2 0,.p 3 0,.p 4 0] (wtH A T6 T7 T8 c6 c7 c8 X) (.tup []) (wtH A T6 T7 T8 c6 c7 c8 (walkN ask (d-1) pre X))) (pre:List Bool) (X:Wm×Nat) (hl:pre.length+d=11) (h1:X.2+2^d≤2^40) (h2:∀s,getN s X.1+2^d≤2^40) :
  Eqn Tryz.prog o_8y [.d (.sl pre.length (pre.map .bool)),.p 0 0,.p 1 0,.p 2 0,.p 3 0,.p 4 0] (wtH A T6 T7 T8 c6 c7 c8 X) (.tup []) (wtH A T6 T7 T8 c6 c7 c8 (walkN ask d pre X)):=by
 obtain ⟨L,op⟩:=X
 simp only at h1 h2
 obtain ⟨p,dd,hr⟩:=h.run pre (by omega)
 have hnw:=o_p9 pre (by omega)
 simp only [BL] at hnw
 have g6:=h.t6
 have g7:=h.t7
 have g8:=h.t8
 have e1:IntKind.i64.wrap (11-(pre.length:Int))=(d:Int):=by rw [w64 (by omega) (by omega)];omega
 obtain ⟨w,hw⟩:∃w,w=2^d:=⟨_,rfl⟩
 have hw1:1≤w:=by rw [hw];exact Nat.two_pow_pos d
 have e2:IntKind.i64.wrap ((2:Int)^d)=(w:Int):=by
  have:((2:Int)^d)=(w:Int):=by rw [hw,Int.natCast_pow];rfl
  rw [this,w64 (by omega) (by omega)]
 have e3:(0:Int)≤d∧d≤64:=by omega
 have e5:d≤64:=by omega
 have e4:((d:Int)).toNat=d:=by omega
 refine Eqn.gen [0,1,2,3,4,5,6,7,8] o_90 (by simp [wtH]) (by simp [wtH]) (by rfl) (by decide) (by simp [wtH,o_62]) (by simp [wtH,h.t6,h.t7,h.t8,o_62]) ?_
 obtain ⟨R,hR⟩:∃R,R=walkN ask d pre (L,op):=⟨_,rfl⟩
 rw [←hR]
 have hask:∃s1 s2 s3 e,ask pre=((s1,s2,s3),e):=⟨_,_,_,_,rfl⟩
 obtain ⟨s1,s2,s3,e,hask⟩:=hask
 rw [hask] at hr
 refine cc (c':=?z188) ?_ ?_
 case refine_1=>cbv<;>exact rfl
 try simp only [wtH,stD] at hr ih ⊢
 refine A00 ?_;try with_reducible exact tt
 refine CallS.n1 (hnw) (R0 ?_);try with_reducible exact tt
 have hS:=o_xy (s1,s2,s3) L
 have hM:=o_xz (s1,s2,s3) L
 have hE:=o_y3 (s1,s2,s3) L (getN (s1,s2,s3) L+w)
 have hT:=o_y4 L (s1,s2,s3)
 have hsm:=h2 (s1,s2,s3)
 simp only [stD] at hS hM
 have hwk:walkN ask d pre (L,op)=if e=8∧d≠0 then walkN ask (d-1) (pre++[true]) (walkN ask (d-1) (pre++[false]) (L,op)) else if e=0 then (addN L (s1,s2,s3) w,op) else (L,op+w):=by
  cases d with
  | zero=>unfold walkN;rw [hask,hw];simp
  | succ d =>
   have hd1:walkN ask (d+1) pre (L,op)=(if (ask pre).2=8 then walkN ask d (pre++[true]) (walkN ask d (pre++[false]) (L,op)) else if (ask pre).2=0 then (addN L (ask pre).1 (2^(d+1)),op) else (L,op+2^(d+1))):=rfl
   rw [hd1,hask,hw]
   simp
 rw [hwk] at hR
 by_cases he:e=8
 ·subst he
  rcases Nat.eq_zero_or_pos d with hd | hd
  ·have hk:¬(pre.length:Int)<11:=by omega
   have hk2:¬pre.length<11:=by omega
   rw [if_neg (by simp [hd]),if_neg (by decide)] at hR
   subst hR
   have ew:IntKind.i64.wrap ((op:Int)+(w:Int))=((op+w:Nat):Int):=by rw [w64 (by omega) (by omega)];omega
   refine CallS.g [9,6,7,8] (hr) (R1 (fs e1 (fs e2 (fs e3 (fs e4 (fs e5 (fs hk hk2)))))) ?_);try with_reducible exact tt
   refine A10 (fs hk hk2) ?_;try with_reducible exact tt
   exact Subs.refl _
  ·have hk:(pre.length:Int)<11:=by omega
   have hk2:pre.length<11:=by omega
   have hp2:pre.length≤140737488355327:=by omega
   refine CallS.g [9,6,7,8] (hr) (R1 (fs e1 (fs e2 (fs e3 (fs e4 (fs e5 (fs hk hk2)))))) ?_);try with_reducible exact tt
   have hd1:d-1+1=d:=by omega
   have hw2:w=2^(d-1)+2^(d-1):=by rw [hw,←hd1,Nat.pow_succ];simp;omega
   obtain ⟨k1,k2⟩:=o_y6 (ask:=ask) (d-1) (pre++[false]) (L,op)
   have i1:=ih (by omega) (pre++[false]) (L,op) (by simp;omega) (by simp only;omega) (fun s=>by have:=h2 s;simp only;omega)
   have i2:=ih (by omega) (pre++[true]) (walkN ask (d-1) (pre++[false]) (L,op)) (by simp;omega) (by simp only at k1;omega) (fun s=>by have:=k2 s;have:=h2 s;simp only at *;omega)
   rw [if_pos ⟨rfl,by omega⟩] at hR
   rw [←hR] at i2
   generalize walkN ask (d-1) (pre++[false]) (L,op)=Y at *
   by_cases hnil:pre=[]
   ·subst hnil
    simp at i1 i2
    refine A10 (fs hk (fs hk2 hp2)) ?_;try with_reducible exact tt
    refine CallS.gf 12 1 ⟨4,_⟩ [.bool false] [0,1,2,3,4,5,6,7,8] (i1) (R0 ?_);try with_reducible exact tt
    refine CallS.gf 14 1 ⟨4,_⟩ [.bool true] [0,1,2,3,4,5,6,7,8] (i2) (R0 ?_);try with_reducible exact tt
   ·simp only [List.length_append,List.length_singleton,List.map_append,List.map_cons,List.map_nil] at i1 i2
    have tk1:(pre.map D.bool++[D.bool false]).take ((pre.length+1)*1)=pre.map D.bool++[D.bool false]:=List.take_of_length_le (by simp)
    have tk2:(pre.map D.bool++[D.bool true]).take ((pre.length+1)*1)=pre.map D.bool++[D.bool true]:=List.take_of_length_le (by simp)
    have tk0:List.take pre.length (List.map (V.d ∘ D.bool) pre)=List.map (V.d ∘ D.bool) pre:=List.take_of_length_le (by simp)
    rw [←tk1] at i1
    rw [←tk2] at i2
    refine A10 (fs hk (fs hk2 (fs hp2 (fs hnil tk0)))) ?_;try with_reducible exact tt
    refine CallS.gf 12 1 ⟨4,_⟩ (pre.map D.bool++[D.bool false]) [0,1,2,3,4,5,6,7,8] (i1) (R1 (fs hk (fs hk2 (fs hp2 (fs hnil tk0)))) ?_);try with_reducible exact tt
    refine A10 (fs hk (fs hk2 (fs hp2 (fs hnil tk0)))) ?_;try with_reducible exact tt
    refine CallS.gf 14 1 ⟨4,_⟩ (pre.map D.bool++[D.bool true]) [0,1,2,3,4,5,6,7,8] (i2) (R1 (fs hk (fs hk2 (fs hp2 (fs hnil tk0)))) ?_);try with_reducible exact tt
 ·by_cases h0:e=0
  ·subst h0
   rw [if_neg (by simp),if_pos rfl] at hR
   subst hR
   have h4:(spN L).length%4=0:=by rw [o_xo];omega
   have h5:posN (s1,s2,s3) L<(spN (touN L (s1,s2,s3))).length/4:=hT
   have ew:IntKind.i64.wrap ((getN (s1,s2,s3) L:Int)+(w:Int))=((getN (s1,s2,s3) L+w:Nat):Int):=by rw [w64 (by omega) (by omega)];omega
   refine CallS.g [9,6,7,8] (hr) (R1 (fs e1 (fs e2 (fs e3 (fs e4 e5)))) ?_);try with_reducible exact tt
   refine AW.cond rfl (fun hh=>?_) (fun hh=>?_)
   ·simp at hh
   repeat (first | refine AW.seq ?_ | refine AW.block ?_)
   refine AW.reg mix ?_
   (simp -implicitDefEqProofs;try simp (disch:=omega) only [w64,wu64])
   try refine need.of (by first | omega | kernel_rfl) ?_
   refine AW.cond rfl (fun hh=>?_) (fun hh=>?_)
   rotate_left
   ·simp at hh
   refine regW (s1:=s1) (s2:=s2) (s3:=s3) (Lm:=L) (w:=w) rfl rfl rfl rfl (by decide) (by decide) rfl rfl rfl (by omega) fun T' hT'=>?_
   simp [blockQ,retG]
  ·rw [if_neg (by simp [he]),if_neg h0] at hR
   subst hR
   have he1:(e==8)=false:=by simpa using he
   have he2:(e==0)=false:=by simpa using h0
   have ew:IntKind.i64.wrap ((op:Int)+(w:Int))=((op+w:Nat):Int):=by rw [w64 (by omega) (by omega)];omega
   refine CallS.g [9,6,7,8] (hr) (R1 (fs e1 (fs e2 (fs e3 (fs e4 (fs e5 (fs he (fs he1 (fs h0 he2)))))))) ?_);try with_reducible exact tt
   refine AW.cond rfl (fun hh=>?_) (fun hh=>?_)
   ·simp [he] at hh
   repeat (first | refine AW.seq ?_ | refine AW.block ?_)
   refine AW.reg mix ?_
   (simp -implicitDefEqProofs [he,he1,h0,he2];try simp (disch:=omega) only [w64,wu64])
   try refine need.of (by first | omega | kernel_rfl) ?_
   refine AW.cond rfl (fun hh=>?_) (fun hh=>?_)
   ·simp [h0] at hh
   refine A10 ew ?_;try with_reducible exact tt
theorem o_zj {A:FuncId} {T6 T7 T8:TypeId} {c6 c7 c8:List D} {ask:List Bool→St×Int} (h:AskOK A T6 T7 T8 c6 c7 c8 ask):∀(d:Nat) (pre:List Bool) (X:Wm×Nat),pre.length+d=11→X.2+2^d≤2^40→(∀s,getN s X.1+2^d≤2^40) →
  Eqn Tryz.prog o_8y [.d (.sl pre.length (pre.map .bool)),.p 0 0,.p 1 0,.p 2 0,.p 3 0,.p 4 0] (wtH A T6 T7 T8 c6 c7 c8 X) (.tup []) (wtH A T6 T7 T8 c6 c7 c8 (walkN ask d pre X))
 | 0,pre,X,h1,h2,h3=>o_zi h 0 (fun h=>absurd rfl h) pre X h1 h2 h3
 | d+1,pre,X,h1,h2,h3=>o_zi h (d+1) (fun _=>o_zj h d) pre X h1 h2 h3
def wtO (X:Wm):Ob:=⟨1000386,(spN X).map .d⟩
set_option maxHeartbeats 4000000 in
theorem o_zk {A:FuncId} {T6 T7 T8:TypeId} {c6 c7 c8:List D} {ask:List Bool→St×Int} (h:AskOK A T6 T7 T8 c6 c7 c8 ask):Eqn Tryz.prog o_81 [.d (.int .i64 11),.fn (.func A) [.p 0 0,.p 1 0,.p 2 0]] [⟨T6,c6.map .d⟩,⟨T7,c7.map .d⟩,⟨T8,c8.map .d⟩] (.tup [.mp 3,.d (.int .i64 (walkN ask 11 [] ([],0)).2)]) [⟨T6,c6.map .d⟩,⟨T7,c7.map .d⟩,⟨T8,c8.map .d⟩,wtO (walkN ask 11 [] ([],0)).1]:=by
 have g6:=h.t6
 have g7:=h.t7
 have g8:=h.t8
 have hw:=o_zj h 11 [] ([],0) (by simp) (by decide) (fun s=>by simp [getN])
 refine Eqn.gen [0,1,2,7] o_83 (by simp) (by simp) (by rfl) (by decide) (by simp [wtO]) (by simp [wtO,h.t6,h.t7,h.t8]) ?_
 have hsn:spN []=[]:=rfl
 refine cc (c':=?z189) ?_ ?_
 case refine_1=>cbv<;>exact rfl
 try simp only [wtH,wtO,List.length_nil,List.map_nil,hsn] at hw ⊢
 generalize walkN ask 11 [] ([],0)=Y at *
 refine A00 ?_;try with_reducible exact tt
 refine CallS.gen [4,3,8,5,6,7,0,1,2] hw (by decide) (by first | ((repeat (first | exact o_5z | refine o_60 rfl rfl ?_));done) | (simp;done)) (by simp) (Subs.cons Sub1.nil (Subs.refl _)) (R0 ?_);try with_reducible exact tt
 trace_state
end
section
open Go.RowKit
end
section
open Go.RowKit
def Gr (D B:Nat) (q:Rat):Prop:=∃z:Nat,q*(D:Rat)=(z:Rat)∧z≤B*D
theorem o_zl {D:Nat} (h:0<D):(D:Rat)≠0:=by
 intro e
 have:D=0:=by exact_mod_cast e
 omega
theorem Gr.rs {D B N:Nat} {q:Rat} (hD:0<D) (hB:1≤B) (h:Gr D B q) (hN:size (B*D)≤N):RS q N:=by
 obtain ⟨z,h1,h2⟩:=h
 have hd:=o_zl hD
 have e:q=mkRat (z:Int) D:=by
  rw [Rat.mkRat_eq_div]
  have:((z:Int):Rat)=(z:Rat):=rfl
  rw [this,←h1]
  rw [Rat.mul_div_cancel hd]
 rw [e]
 refine RS.mk' hD ?_ ?_
 ·exact Nat.le_trans (o_lw (by simpa using h2)) hN
 ·exact Nat.le_trans (o_lw (by exact Nat.le_mul_of_pos_left D hB)) hN
theorem Gr.zero (D B:Nat):Gr D B 0:=⟨0,by grind,Nat.zero_le _⟩
theorem Gr.add {D B C:Nat} {x y:Rat} (hx:Gr D B x) (hy:Gr D C y):Gr D (B+C) (x+y):=by
 obtain ⟨z,h1,h2⟩:=hx
 obtain ⟨w,h3,h4⟩:=hy
 refine ⟨z+w,?_,by rw [Nat.add_mul];omega⟩
 have:((z+w:Nat):Rat)=(z:Rat)+(w:Rat):=by simp
 rw [this,←h1,←h3];grind
theorem Gr.mul {D E B C:Nat} {x y:Rat} (hx:Gr D B x) (hy:Gr E C y):Gr (D*E) (B*C) (x*y):=by
 obtain ⟨z,h1,h2⟩:=hx
 obtain ⟨w,h3,h4⟩:=hy
 refine ⟨z*w,?_,?_⟩
 ·have e1:((z*w:Nat):Rat)=(z:Rat)*(w:Rat):=by simp
  have e2:((D*E:Nat):Rat)=(D:Rat)*(E:Rat):=by simp
  rw [e1,e2,←h1,←h3];grind
 ·have:=Nat.mul_le_mul h2 h4
  refine Nat.le_trans this (Nat.le_of_eq ?_)
  rw [Nat.mul_mul_mul_comm]
theorem Gr.le {D B C:Nat} {x:Rat} (h:Gr D B x) (hbc:B≤C):Gr D C x:=by
 obtain ⟨z,h1,h2⟩:=h
 exact ⟨z,h1,Nat.le_trans h2 (Nat.mul_le_mul_right _ hbc)⟩
theorem Gr.one (D:Nat):Gr D 1 1:=⟨D,by grind,by omega⟩
theorem Gr.sub1 {D:Nat} {x:Rat} (h:Gr D 1 x):Gr D 1 (1-x):=by
 obtain ⟨z,h1,h2⟩:=h
 refine ⟨D-z,?_,by omega⟩
 have e1:((D-z:Nat):Rat)=(D:Rat)-(z:Rat):=by
  have:(D:Rat)=((D-z+z:Nat):Rat):=by rw [Nat.sub_add_cancel (by omega)]
  rw [this]
  have e:((D-z+z:Nat):Rat)=((D-z:Nat):Rat)+(z:Rat):=by simp
  rw [e];grind
 rw [e1,←h1];grind
theorem o_zm {k a w:Nat} (h:GoodS k a w):∃G:Nat,0<G∧G≤2^63∧∀x,x≤15→Gr G 1 (chP k a x):=by
 by_cases hk:k=1
 ·subst hk
  have ha:1≤a∧a≤4:=by
   rcases h.1 with ⟨-,h1,h2⟩ | ⟨h1,-⟩ | ⟨h1,-⟩
   ·exact ⟨h1,h2⟩
   ·omega
   ·omega
  refine ⟨(a+1)^15,Nat.pow_pos (by omega),Nat.le_trans (Nat.pow_le_pow_left (show a+1≤5 by omega) 15) (by decide),fun x hx=>?_⟩
  rw [chP,if_pos rfl]
  unfold chM
  have key:∀n,n≤15→∃z:Nat,mkRat (a:Int) (a+1)^n*(((a+1)^n:Nat):Rat)=(z:Rat)∧z≤(a+1)^n:=by
   intro n
   induction n with
   | zero=>intro _;exact ⟨1,by simp,by simp⟩
   | succ n ih =>
    intro hn
    obtain ⟨z,h1,h2⟩:=ih (by omega)
    refine ⟨z*a,?_,by rw [Nat.pow_succ];exact Nat.mul_le_mul h2 (by omega)⟩
    have e1:mkRat (a:Int) (a+1)*((a+1:Nat):Rat)=(a:Rat):=by
     rw [Rat.mkRat_eq_div]
     have:((a:Int):Rat)=(a:Rat):=rfl
     rw [this]
     exact Rat.div_mul_cancel (o_zl (by omega))
    have e2:(((a+1)^(n+1):Nat):Rat)=(((a+1)^n:Nat):Rat)*((a+1:Nat):Rat):=by rw [Nat.pow_succ];simp
    have e3:((z*a:Nat):Rat)=(z:Rat)*(a:Rat):=by simp
    rw [Rat.pow_succ,e2,e3,←h1,←e1];grind
  obtain ⟨z,h1,h2⟩:=key x hx
  refine ⟨z*(a+1)^(15-x),?_,?_⟩
  ·have e1:(((a+1)^15:Nat):Rat)=(((a+1)^x:Nat):Rat)*(((a+1)^(15-x):Nat):Rat):=by
    have:(a+1)^15=(a+1)^x*(a+1)^(15-x):=by rw [←Nat.pow_add];congr 1;omega
    rw [this];simp
   have e2:((z*(a+1)^(15-x):Nat):Rat)=(z:Rat)*(((a+1)^(15-x):Nat):Rat):=by simp
   rw [e1,e2,←h1];grind
  ·rw [Nat.one_mul,show (a+1)^15=(a+1)^x*(a+1)^(15-x) by rw [←Nat.pow_add];congr 1;omega]
   exact Nat.mul_le_mul_right _ h2
 ·refine ⟨2^63,by decide,Nat.le_refl _,fun x hx=>?_⟩
  rw [chP,if_neg hk]
  have he:=o_ql h hk hx
  generalize expOf k a x=e at *
  refine ⟨2^(63-e),?_,by rw [Nat.one_mul];exact Nat.pow_le_pow_right (by decide) (by omega)⟩
  have e1:mkRat 1 (2^e)*((2^e:Nat):Rat)=1:=by
   rw [Rat.mkRat_eq_div]
   have:=Rat.div_mul_cancel (a:=((1:Int):Rat)) (o_zl (Nat.two_pow_pos e))
   simpa using this
  have e2:((2^63:Nat):Rat)=((2^e:Nat):Rat)*((2^(63-e):Nat):Rat):=by
   have:2^63=2^e*2^(63-e):=by rw [←Nat.pow_add];congr 1;omega
   rw [this];simp
  rw [e2,←Rat.mul_assoc,e1];grind
end
section
open Go.RowKit
theorem o_zn (q:Rat) (out K:Sp) (j:Nat) (h:j<K.length):innQ q out (K.take (j+1))=addQ (innQ q out (K.take j)) K[j].1 (q*K[j].2):=by
 unfold innQ;rw [List.take_add_one,List.getElem?_eq_getElem h,Option.toList,List.foldl_append];rfl
def outQ (next:St→Sp) (A:Sp) (i:Nat):Sp:=(A.take i).foldl (fun out a=>innQ a.2 out (atQ (next a.1))) []
theorem o_zo (next:St→Sp) (A:Sp) (i:Nat) (h:i<A.length):outQ next A (i+1)=innQ A[i].2 (outQ next A i) (atQ (next A[i].1)):=by
 unfold outQ;rw [List.take_add_one,List.getElem?_eq_getElem h,Option.toList,List.foldl_append];rfl
theorem o_zp (next:St→Sp) (l:Sp):outQ next (atQ l) (atQ l).length=timesQ next l:=by unfold outQ timesQ;rw [List.take_length]
theorem o_zq {D B:Nat} {l:Sp} (h:∀p∈l,Gr D B p.2) (s:St):Gr D B (getQ l s):=by
 induction l with
 | nil=>exact Gr.zero D B
 | cons p l ih =>
  unfold getQ
  split
  ·exact h p (by simp)
  ·exact ih fun q hq=>h q (by simp [hq])
theorem o_zr {D B:Nat} {q:Rat} {out:Sp} {C:Nat} (ho:∀p∈out,Gr D C p.2):∀(K:Sp),(∀p∈K,Gr D B (q*p.2))→∀p∈innQ q out K,Gr D (C+K.length*B) p.2:=by
 have key:∀(K out:Sp) (C:Nat),(∀p∈out,Gr D C p.2)→(∀p∈K,Gr D B (q*p.2))→∀p∈innQ q out K,Gr D (C+K.length*B) p.2:=by
  intro K
  induction K with
  | nil=>intro out C ho _ p hp;simpa [innQ] using ho p hp
  | cons b K ih =>
   intro out C ho hK p hp
   have h1:∀p∈addQ out b.1 (q*b.2),Gr D (C+B) p.2:=by
    intro p hp
    rcases o_w2 hp with hp | rfl
    ·exact (ho p hp).le (by omega)
    ·exact (o_zq ho _).add (hK b (by simp))
   have:=ih (addQ out b.1 (q*b.2)) (C+B) h1 (fun p hp=>hK p (by simp [hp])) p hp
   refine this.le (Nat.le_of_eq ?_)
   rw [List.length_cons,Nat.add_mul,Nat.one_mul];omega
 exact fun K=>key K out C ho
theorem o_zs {D E B J:Nat} {next:St→Sp} {A:Sp} (hA:∀p∈A,Gr D B p.2) (hN:∀p∈A,(∀r∈next p.1,Gr E 1 r.2)∧(atQ (next p.1)).length≤J):∀i,i≤A.length→∀p∈outQ next A i,Gr (D*E) (i*J*B) p.2
 | 0,_=>fun p hp=>by simp [outQ] at hp
 | i+1,hi=>by
  have hi':i<A.length:=hi
  have ih:=o_zs hA hN i (by omega)
  rw [o_zo next A i hi']
  obtain ⟨h1,h2⟩:=hN A[i] (List.getElem_mem hi')
  have hm:∀p∈atQ (next A[i].1),Gr (D*E) B (A[i].2*p.2):=fun p hp=>by
   have:=(hA A[i] (List.getElem_mem hi')).mul (h1 p (List.mem_filter.1 ((o_vn _).mem_iff.1 hp)).1)
   rwa [Nat.mul_one] at this
  intro p hp
  refine (o_zr ih _ hm p hp).le ?_
  have:=Nat.mul_le_mul_right B h2
  rw [Nat.add_mul i 1 J,Nat.one_mul,Nat.add_mul];omega
theorem o_zt {top:Nat} {c:Nat→Rat} (s:St):nzQ (stepQ top c s)≠[]:=by
 intro h
 have h1:=(o_w1 (fun _=>1) top c s).2
 have h2:exQ (fun _=>(1:Rat)) (stepQ top c s)=1:=by
  rw [h1];split
  ·rfl
  ·grind
 have h3:=o_vh (fun _=>(1:Rat)) (stepQ top c s)
 rw [show (stepQ top c s).filter (fun p=>decide (p.2≠0))=nzQ (stepQ top c s) from rfl,h] at h3
 rw [h2] at h3
 exact absurd h3 (by decide)
theorem o_zu (l:Sp) (s:St) (q:Rat):(setQ l s q).length≤l.length+1:=by
 induction l with
 | nil=>simp [setQ]
 | cons p l ih=>unfold setQ;split<;>simp<;>omega
theorem o_zv (top:Nat) (c:Nat→Rat) (s:St):(stepQ top c s).length≤2:=by
 unfold stepQ
 split
 ·simp
 ·unfold eitQ addQ
  have:=o_zu (setQ [] (s.1+1,s.2) (getQ [] (s.1+1,s.2)+c s.1)) s (getQ (setQ [] (s.1+1,s.2) (getQ [] (s.1+1,s.2)+c s.1)) s+(1-c s.1))
  have h2:=o_zu [] (s.1+1,s.2) (getQ [] (s.1+1,s.2)+c s.1)
  simp at h2
  omega
theorem o_zw (l:Sp):(atQ l).length≤l.length:=by
 rw [(o_vn l).length_eq];exact List.length_filter_le _ _
theorem o_zx {G top:Nat} {c:Nat→Rat} (hc:∀x,x<top→Gr G 1 (c x)) (s:St) (hs:s.1≤top):∀p∈stepQ top c s,Gr G 1 p.2:=by
 unfold stepQ
 split
 ·intro p hp;simp at hp;subst hp;exact Gr.one G
 ·rename_i e
  have h1:=hc s.1 (by omega)
  have hne:¬s=(s.1+1,s.2):=fun h=>by have:=congrArg Prod.fst h;simp at this
  intro p hp
  unfold eitQ at hp
  rcases o_w2 hp with hp | rfl
  ·rcases o_w2 hp with hp | rfl
   ·cases hp
   ·have:=(Gr.zero G 0).add h1
    simpa [getQ] using this
  ·have h2:getQ (addQ [] (s.1+1,s.2) (c s.1)) s=0:=by unfold addQ;rw [o_v7,if_neg hne];rfl
   show Gr G 1 (getQ (addQ [] (s.1+1,s.2) (c s.1)) s+(1-c s.1))
   rw [h2]
   have:=(Gr.zero G 0).add h1.sub1
   simpa using this
end
section
open Go.RowKit
def PO (k a w:Nat):Ob:=⟨29,[.d (.int .i64 k),.d (.int .i64 a),.d (.int .i64 w)]⟩
theorem o_zy (A:Sp) (i:Nat) (hi:i<A.length):∃(s1 s2:Nat) (s3:Bool) (q:Rat) (N1 N2 N3:D),A[i]=((s1,s2,s3),q)∧rcD q=[N1,N2,N3]∧((spD rcD A).drop (i*6)).take 6=[.int .i64 s1,.int .i64 s2,.bool s3,N1,N2,N3]:=by
 obtain ⟨⟨⟨s1,s2,s3⟩,q⟩,hp⟩:∃p,A[i]=p:=⟨_,rfl⟩
 have h6:=o_6r (n:=6) (f:=atomC) o_yl A i hi
 rw [hp,←o_ym] at h6
 exact ⟨s1,s2,s3,q,_,_,_,hp,rfl,by rw [h6];rfl⟩
set_option maxHeartbeats 4000000 in
theorem o_zz {k a w:Nat} (h:GoodS k a w) (l:Sp) (G D B:Nat) (hu:Uq l) (hok:oklQ (topC w) l) (hnz:nzQ l≠[]) (h12:(nzQ l).length≤40) (hl:l.length≤1000000) (hD:0<D) (hB:1≤B) (hgl:∀p∈l,Gr D B p.2) (hG:0<G) (hc:∀x,x≤15→Gr G 1 (chP k a x)) (hsz:size (80*B*(D*G))≤100000) :
  Eqn Tryz.prog o_aa [.mp 0,.fn (.func o_ad) [.p 1 0]] [spO l,PO k a w] (.mp 2) [spO l,PO k a w,spO (timesQ (stepQ (topC w) (chP k a)) l)]:=by
 refine Eqn.gen [0,1,2] o_ac (by simp) (by simp) (by rfl) (by decide) (by simp) (by simp [spO,PO]) ?_
 have h15:topC w≤15:=by have:=Nat.pow_le_pow_right (n:=2) (by omega) h.2.2;unfold topC;omega
 obtain ⟨next,hnext⟩:∃f,f=stepQ (topC w) (chP k a):=⟨_,rfl⟩
 obtain ⟨A,hA⟩:∃A,A=atQ l:=⟨_,rfl⟩
 have hAl:A.length≤40:=by rw [hA,(o_vn l).length_eq];exact h12
 have hA0:1≤A.length:=by
  rw [hA,(o_vn l).length_eq]
  rcases Nat.eq_zero_or_pos (nzQ l).length with e | e
  ·exact absurd (List.eq_nil_of_length_eq_zero e) hnz
  ·exact e
 have hAm:∀p∈A,p∈l:=fun p hp=>(List.mem_filter.1 ((o_vn l).mem_iff.1 (hA▸hp))).1
 have hDG:0<D*G:=Nat.mul_pos hD hG
 have hBD:size (B*D)≤100000:=by
  refine Nat.le_trans (o_lw ?_) hsz
  calc B*D=B*D*1:=(Nat.mul_one _).symm
   _≤B*D*(80*G):=Nat.mul_le_mul_left _ (by omega)
   _=80*B*(D*G):=by simp [Nat.mul_comm,Nat.mul_left_comm,Nat.mul_assoc]
 have hat:=o_zf l hu hnz h12 hl (fun p hp=>(hgl p hp).rs hD hB hBD)
 have hGs:size (1*G)≤100000:=by
  refine Nat.le_trans (o_lw ?_) hsz
  calc 1*G≤(80*B*D)*G:=Nat.mul_le_mul_right _ (Nat.mul_pos (by omega) hD)
   _=80*B*(D*G):=by rw [Nat.mul_assoc]
 have hgn:∀s:St,s.1≤topC w→∀p∈next s,Gr G 1 p.2:=fun s hs=>by rw [hnext];exact o_zx (fun x hx=>hc x (by omega)) s hs
 have hnl:∀s,(atQ (next s)).length≤2:=fun s=>Nat.le_trans (o_zw _) (by rw [hnext];exact o_zv _ _ _)
 have hout:=o_zs (D:=D) (E:=G) (B:=B) (J:=2) (next:=next) (A:=A) (fun p hp=>hgl p (hAm p hp)) (fun p hp=>⟨hgn p.1 (hok p (hAm p hp)).1.1,hnl p.1⟩)
 have hon:=o_zo next A
 have hoa:outQ next A A.length=timesQ next l:=by rw [hA];exact o_zp next l
 have hADl:=o_v5 rcD (fun _=>rfl) A
 have hget:=o_zy A
 rw [←hnext,←hoa]
 rw [←hA] at hat
 have hcl:∀s:St,s.1≤topC w→Eqn Tryz.prog o_ad [.d (.agg (stD s)),.p 0 0] [PO k a w] (.mp 1) [PO k a w,spO (next s)]∧Eqn Tryz.prog o_aj [.mp 0] [spO (next s)] (.d (.sl (atQ (next s)).length (spD rcD (atQ (next s))))) [spO (next s)]:=fun s hs=>by
  refine ⟨by rw [hnext];exact o_yk h s hs,o_zf _ (by rw [hnext];exact (o_w1 (fun _=>0) _ _ s).1) (by rw [hnext];exact o_zt s) ?_ ?_ fun p hp=>(hgn s hs p hp).rs hG (Nat.le_refl _) hGs⟩
  ·exact Nat.le_trans (List.length_filter_le _ _) (Nat.le_trans (by rw [hnext];exact o_zv _ _ _) (by omega))
  ·exact Nat.le_trans (by rw [hnext];exact o_zv _ _ _) (by omega)
 have hAok:∀p∈A,p.1.1≤topC w:=fun p hp=>(hok p (hAm p hp)).1.1
 clear hnext hA hoa hnz
 refine cc (c':=?z190) ?_ ?_
 case refine_1=>cbv<;>exact rfl
 try simp only [spO,PO] at hat hcl ⊢
 generalize hLl:spD rcD l=LL at *
 refine A00 ?_;try with_reducible exact tt
 refine CallS.g [0] (hat) (R0 ?_);try with_reducible exact tt
 refine AW.loopG (α:=Nat) (fun i=>setS (List.replicate 40 .junk) [(1,.fn (.func o_ad) [.p 1 0]),(5,.mp 2),(12,.d (.sl A.length (spD rcD A))),(13,.d (.int .i64 A.length)),(14,.d (.int .i64 (i:Nat)))]) (fun i=>[some ⟨1000391,LL.map .d⟩,some ⟨29,[.d (.int .i64 k),.d (.int .i64 a),.d (.int .i64 w)]⟩,some ⟨1000391,(spD rcD (outQ next A i)).map .d⟩]) (fun i=>i≤A.length) (fun i=>A.length-i) 0 ?_ (Nat.zero_le _) ?_ ?_ ?_
 ·intro i hi;simp
 ·simp
 ·simp [outQ,spD]
 rintro i hi
 simp
 by_cases hi2:i<A.length
 ·have hi3:(i:Int)<A.length:=by omega
  obtain ⟨s1,s2,s3,q,N1,N2,N3,hp,hN,hg⟩:=hget i hi2
  have hsk:=hAok _ (List.getElem_mem hi2)
  rw [hp] at hsk
  obtain ⟨hof,han⟩:=hcl (s1,s2,s3) hsk
  have hgq:Gr D B q:=by have:=hgl _ (hAm _ (List.getElem_mem hi2));rw [hp] at this;exact this
  have hon1:=hon i hi2
  rw [hp] at hon1
  simp only at hon1
  have hgo:=hout i hi
  have hn2:=hnl (s1,s2,s3)
  have hgn2:=hgn (s1,s2,s3) hsk
  obtain ⟨C,hC⟩:∃C,C=atQ (next (s1,s2,s3)):=⟨_,rfl⟩
  have hCm:∀p∈C,Gr G 1 p.2:=fun p hp=>hgn2 p (List.mem_filter.1 ((o_vn _).mem_iff.1 (hC▸hp))).1
  rw [←hC] at hon1 han hn2
  have hCl:=o_v5 rcD (fun _=>rfl) C
  have hgetC:=o_zy C
  have ewi:IntKind.i64.wrap ((i:Int)+1)=((i+1:Nat):Int):=by rw [w64 (by omega) (by omega)];omega
  simp only [stD] at hof han
  generalize hNL:spD rcD (next (s1,s2,s3))=NL at *
  have hb6:i*6+6≤A.length*6:=by omega
  have hb7:i*6<A.length*6:=by omega
  refine A10 (fs hi2 (fs hi3 (fs hg (fs hADl (fs hb6 hb7))))) ?_;try with_reducible exact tt
  refine CallS.g [1] (hof) (R0 ?_);try with_reducible exact tt
  refine CallS.g [4] (han) (R0 ?_);try with_reducible exact tt
  refine AW.loopG (α:=Nat) (fun j=>setS (List.replicate 40 .junk) [(1,.fn (.func o_ad) [.p 1 0]),(5,.mp 2),(7,.p 3 0),(12,.d (.sl A.length (spD rcD A))),(13,.d (.int .i64 A.length)),(14,.d (.int .i64 (i:Nat))),(22,.d (.sl C.length (spD rcD C))),(23,.d (.int .i64 C.length)),(24,.d (.int .i64 (j:Nat)))]) (fun j=>[some ⟨1000391,LL.map .d⟩,some ⟨29,[.d (.int .i64 k),.d (.int .i64 a),.d (.int .i64 w)]⟩,some ⟨1000391,(spD rcD (innQ q (outQ next A i) (C.take j))).map .d⟩,some ⟨54,[.d (.int .i64 s1),.d (.int .i64 s2),.d (.bool s3),.d N1,.d N2,.d N3]⟩]) (fun j=>j≤C.length) (fun j=>C.length-j) 0 ?_ (Nat.zero_le _) ?_ ?_ ?_
  ·intro j hj;simp
  ·simp
  ·simp [innQ]
  rintro j hj
  simp
  by_cases hj2:j<C.length
  ·have hj3:(j:Int)<C.length:=by omega
   obtain ⟨t1,t2,t3,r,M1,M2,M3,hpc,hM,hgc⟩:=hgetC j hj2
   have hinn:=o_zn q (outQ next A i) C j hj2
   have hgr:=hCm _ (List.getElem_mem hj2)
   rw [hpc] at hinn hgr
   simp only at hinn hgr
   have hqr:=hgq.mul hgr
   have hgi:=o_zr (q:=q) (B:=B) hgo (C.take j) (fun p hp=>by
    have:=hgq.mul (hCm p (List.mem_of_mem_take hp))
    rwa [Nat.mul_one] at this)
   have hget2:=(o_zq hgi (t1,t2,t3)).le (C:=80*B) (by
    have e1:(C.take j).length≤2:=by rw [List.length_take];omega
    have e2:=Nat.mul_le_mul_right B e1
    have e3:i*2*B≤78*B:=Nat.mul_le_mul_right _ (by omega)
    omega)
   have hq1:=hgq.rs hD hB hBD
   have hr1:=hgr.rs hG (Nat.le_refl _) hGs
   have hmul:=o_sy q r hq1 hr1
   have hadd:=o_x8 (innQ q (outQ next A i) (C.take j)) (t1,t2,t3) (q*r) (hget2.rs hDG (by omega) hsz) ((hqr.le (C:=80*B) (by omega)).rs hDG (by omega) hsz)
   have ewj:IntKind.i64.wrap ((j:Int)+1)=((j+1:Nat):Int):=by rw [w64 (by omega) (by omega)];omega
   have hc6:j*6+6≤C.length*6:=by omega
   have hc7:j*6<C.length*6:=by omega
   rw [←hinn] at hadd
   rw [o_x5 q,o_x5 r,o_x5 (q*r),hN,hM] at hmul
   rw [o_x5 (q*r)] at hadd
   obtain ⟨P1,P2,P3,hP⟩:∃P1 P2 P3,rcD (q*r)=[P1,P2,P3]:=⟨_,_,_,rfl⟩
   rw [hP] at hmul hadd
   simp only [spO,stD] at hadd
   refine A10 (fs hj2 (fs hj3 (fs hgc (fs hCl (fs hc6 hc7))))) ?_;try with_reducible exact tt
   refine CallS.pu (hmul) (R0 ?_);try with_reducible exact tt
   refine CallS.g [2] (hadd) (R0 ?_);try with_reducible exact tt
   refine A10 ewj ?_;try with_reducible exact tt
   refine ⟨j+1,2,2,⟨by omega,by omega,by omega,by omega⟩,by omega,by omega,?_,?_⟩
   ·simp [swT,swH,sw,Ob.sw,V.ren,V.rens]
   ·simp [swT,swH,sw,Ob.sw,V.ren,V.rens]
  ·have h2:j=C.length:=by omega
   subst h2
   rw [List.take_length,←hon1]
   refine A00 ?_;try with_reducible exact tt
   refine A10 ewi ?_;try with_reducible exact tt
   refine ⟨i+1,2,2,⟨by omega,by omega,by omega,by omega⟩,by omega,by omega,?_,?_⟩
   ·simp [swT,swH,sw,Ob.sw,V.ren,V.rens]
   ·simp [swT,swH,sw,Ob.sw,V.ren,V.rens]
 ·have h2:i=A.length:=by omega
  subst h2
  refine A00 ?_;try with_reducible exact tt
end
section
open Go.RowKit
theorem o_100 {k a w:Nat} (h:GoodR k a w) (s:St) (hw:WellR k a w s.1 s.2.1 s.2.2):Eqn Tryz.prog o_cy [.d (.agg (stD s)),.p 0 0] [PO k a w] (.d (.bool false)) [PO k a w]:=by
 refine Eqn.gen [0] o_d0 (by simp) (by simp) (by rfl) (by decide) (by simp) (by simp [PO]) ?_
 have hwl:=o_ue h s.1 s.2.1 s.2.2
 rw [o_ud.2 hw] at hwl
 refine cc (c':=?z191) ?_ ?_
 case refine_1=>cbv<;>exact rfl
 try simp only [PO,stD,parD,tsD] at hwl ⊢
 refine A00 ?_;try with_reducible exact tt
 refine CallS.pu (hwl) (R0 ?_);try with_reducible exact tt
theorem o_101 {k a w:Nat} (h:GoodR k a w) (s:St) (hw:WellR k a w s.1 s.2.1 s.2.2):Eqn Tryz.prog o_fh [.d (.sl 1 (stD s)),.fn (.func o_cy) [.p 0 0]] [PO k a w] (.d (.int .i64 (-1))) [PO k a w]:=by
 refine Eqn.gen [0] o_fj (by simp) (by simp) (by rfl) (by decide) (by simp) (by simp [PO]) ?_
 have hw1:=o_100 h s hw
 refine cc (c':=?z192) ?_ ?_
 case refine_1=>cbv<;>exact rfl
 try simp only [PO,stD] at hw1 ⊢
 refine A00 ?_;try with_reducible exact tt
 refine AW.rounds 2 ?_
 refine A00 ?_;try with_reducible exact tt
 refine CallS.g [0] (hw1) (R0 ?_);try with_reducible exact tt
 refine A00 ?_;try with_reducible exact tt
theorem o_102 {k a w:Nat} (h:GoodR k a w) (s:St) (hw:WellR k a w s.1 s.2.1 s.2.2):Eqn Tryz.prog o_cv [.d (.sl 1 (stD s)),.fn (.func o_cy) [.p 0 0]] [PO k a w] (.d (.bool false)) [PO k a w]:=by
 refine Eqn.gen [0] o_cx (by simp) (by simp) (by rfl) (by decide) (by simp) (by simp [PO]) ?_
 have hi:=o_101 h s hw
 refine cc (c':=?z193) ?_ ?_
 case refine_1=>cbv<;>exact rfl
 try simp only [PO,stD] at hi ⊢
 refine A00 ?_;try with_reducible exact tt
 refine CallS.g [0] (hi) (R0 ?_);try with_reducible exact tt
theorem o_103 {k a w:Nat} (h:GoodR k a w) (s:St) (hw:WellR k a w s.1 s.2.1 s.2.2):Eqn Tryz.prog o_a1 [.d (parD k a w),.d (.sl 1 (stD s))] [] (.d (.int .i64 0)) []:=by
 refine Eqn.pure o_a3 Plain.ok ?_
 have hc:=o_uc h
 have hi:=o_102 h s hw
 refine cc (c':=?z194) ?_ ?_
 case refine_1=>cbv<;>exact rfl
 try simp only [PO,stD,parD] at hc hi ⊢
 refine A00 ?_;try with_reducible exact tt
 refine CallS.pu (hc) (R0 ?_);try with_reducible exact tt
 refine A00 ?_;try with_reducible exact tt
 refine CallS.g [0] (hi) (R0 ?_);try with_reducible exact tt
 refine A00 ?_;try with_reducible exact tt
theorem o_104 {k a w:Nat} (hk:k≠4) (hw:w≤10):Eqn Tryz.prog o_a4 [.d (parD k a w)] [] (.d (.int .i64 (2^w:Nat))) []:=by
 refine Eqn.pure o_a6 Plain.ok ?_
 have hk':¬(k:Int)=4:=by omega
 have e0:(2:Int)^w=(2^w:Nat):=by rw [Int.natCast_pow];rfl
 have h2:2^w≤1024:=Nat.pow_le_pow_right (n:=2) (by omega) hw
 refine cc (c':=?z195) ?_ ?_
 case refine_1=>cbv<;>exact rfl
 try simp only [parD]
 generalize 2^w=S at *
 have e1:IntKind.i64.wrap (S:Int)=S:=w64 (by omega) (by omega)
 refine A10 (fs hk (fs hk' (fs e0 e1))) ?_;try with_reducible exact tt
end
section
open Go.RowKit
def kyQ (P:St→Prop) (l:Sp):Prop:=∀p∈l,P p.1
theorem o_105 {P:St→Prop} {q:Rat}:∀{l out:Sp},kyQ P out→kyQ P l→kyQ P (innQ q out l)
 | [],out,h,_=>h
 | b::l,out,h,hl=>o_105 (out:=addQ out b.1 (q*b.2)) (l:=l) (fun p hp=>by
   rcases o_w2 hp with hp | rfl
   ·exact h p hp
   ·exact hl b (by simp)) fun p hp=>hl p (by simp [hp])
theorem ky_at {P:St→Prop} {l:Sp} (h:kyQ P l):kyQ P (atQ l):=fun p hp=>h p (List.mem_filter.1 ((o_vn l).mem_iff.1 hp)).1
theorem o_106 {P P':St→Prop} {next:St→Sp} (hn:∀s,P s→kyQ P' (next s)) {l:Sp} (h:kyQ P l):kyQ P' (timesQ next l):=by
 have key:∀(k out:Sp),kyQ P' out→kyQ P k→kyQ P' (k.foldl (fun out a=>innQ a.2 out (atQ (next a.1))) out):=by
  intro k
  induction k with
  | nil=>intro out h _;exact h
  | cons a k ih =>
   intro out ho hk
   exact ih _ (o_105 ho (ky_at (hn _ (hk a (by simp))))) fun p hp=>hk p (by simp [hp])
 exact key _ _ (fun p hp=>by cases hp) (ky_at h)
def reach (top k:Nat) (i:Nat) (t:St):Prop:=t=(top,0,true)∨t.2=(0,false)∧k≤t.1∧t.1≤k+i∧t.1≤top
theorem o_107 {top k i:Nat} {c:Nat→Rat} {t:St} (h:reach top k i t):kyQ (reach top k (i+1)) (stepQ top c t):=by
 obtain ⟨a,b,f⟩:=t
 unfold stepQ
 split
 ·rename_i e
  intro p hp
  simp at hp;subst hp
  left
  rcases h with h | ⟨h,-⟩
  ·have h1:=congrArg (fun x:St=>x.2.1) h
   simp only at e h1
   rw [e,h1]
  ·simp only [Prod.mk.injEq] at h
   simp only at e
   rw [e,h.1]
 ·rename_i e
  simp only at e
  rcases h with h | ⟨h,h1,h2,h3⟩
  ·exact absurd (congrArg (fun x:St=>x.1) h) e
  ·simp only at h h1 h2 h3
   intro p hp
   unfold eitQ at hp
   rcases o_w2 hp with hp | rfl
   ·rcases o_w2 hp with hp | rfl
    ·cases hp
    ·exact .inr ⟨h,by simp only;omega,by simp only;omega,by simp only;omega⟩
   ·exact .inr ⟨h,h1,by simp only;omega,h3⟩
theorem o_108 {top:Nat} {c:Nat→Rat} {s:St} (hs:okQ top s):∀i,kyQ (reach top s.1 i) (ofQ (stepQ top c) s i)
 | 0=>fun p hp=>by
  simp [ofQ] at hp;subst hp
  obtain ⟨a,b,f⟩:=s
  obtain ⟨h1,h2,h3⟩:=hs
  simp only at h1 h2 h3
  subst h2
  cases f with
  | false=>exact .inr ⟨rfl,Nat.le_refl _,Nat.le_refl _,h1⟩
  | true=>left;rw [h3 rfl]
 | i+1=>o_106 (fun t ht=>o_107 ht) (o_108 hs i)
theorem o_109 {top k i:Nat} {l:Sp} (hu:Uq l) (h:kyQ (reach top k i) l):l.length≤i+2:=by
 have h1:(l.map (·.1)).length≤((top,0,true)::(List.range (i+1)).map fun j=>(k+j,0,false):List St).length:=by
  refine List.Nodup.length_le_of_subset hu fun t ht=>?_
  obtain ⟨p,hp,rfl⟩:=List.mem_map.1 ht
  rcases h p hp with e | ⟨e,e1,e2,-⟩
  ·rw [e];simp
  ·refine List.mem_cons_of_mem _ (List.mem_map.2 ⟨p.1.1-k,List.mem_range.2 (by omega),?_⟩)
   rw [show k+(p.1.1-k)=p.1.1 by omega,←e]
 simpa using h1
theorem nz_of {top:Nat} {c:Nat→Rat} (s:St) (n:Nat):nzQ (ofQ (stepQ top c) s n)≠[]:=by
 intro h
 have h2:=o_wa (top:=top) (c:=c) s n
 have h3:=o_vh (fun _=>(1:Rat)) (ofQ (stepQ top c) s n)
 rw [show (ofQ (stepQ top c) s n).filter (fun p=>decide (p.2≠0))=nzQ (ofQ (stepQ top c) s n) from rfl,h] at h3
 rw [h2] at h3
 exact absurd h3 (by decide)
theorem o_10a (a:Nat) (h:size a≤1):∀n,size (a^n)≤n+1
 | 0=>Nat.le_trans (by decide:size 1≤1) (by omega)
 | n+1=>by
  rw [Nat.pow_succ]
  have:=o_sk (a^n) a
  have:=o_10a a h n
  omega
theorem o_10b {G n:Nat} (hG:G≤2^63) (hn:n≤100):size (80*80^n*(G^n*G))≤100000∧size (80^n*G^n)≤100000:=by
 have h1:size G≤1:=o_md (Nat.lt_of_le_of_lt hG (by decide))
 have h2:size 80≤1:=o_md (by decide)
 have a1:=o_10a 80 h2 n
 have a2:=o_10a G h1 n
 have a3:=o_sk (80*80^n) (G^n*G)
 have a4:=o_sk 80 (80^n)
 have a5:=o_sk (G^n) G
 have a6:=o_sk (80^n) (G^n)
 omega
theorem o_10c {k a w:Nat} (h:GoodS k a w):(∀x,x<topC w→0≤chP k a x)∧(∀x,x<topC w→chP k a x≤1):=by
 have h15:topC w≤15:=by have:=Nat.pow_le_pow_right (n:=2) (by omega) h.2.2;unfold topC;omega
 obtain ⟨G,hG,-,hc⟩:=o_zm h
 have hp:(0:Rat)<(G:Rat):=by exact_mod_cast hG
 refine ⟨fun x hx=>?_,fun x hx=>?_⟩
 ·obtain ⟨z,h1,h2⟩:=hc x (by omega)
  apply Classical.byContradiction
  intro hn
  have hz:(0:Rat)≤(z:Rat):=by exact_mod_cast Nat.zero_le z
  have:=Rat.mul_lt_mul_of_pos_right (Rat.not_le.1 hn) hp
  grind
 ·obtain ⟨z,h1,h2⟩:=hc x (by omega)
  apply Classical.byContradiction
  intro hn
  have hz:(z:Rat)≤(G:Rat):=by exact_mod_cast (by omega:z≤G)
  have:=Rat.mul_lt_mul_of_pos_right (Rat.not_le.1 hn) hp
  grind
end
section
open Go.RowKit
def dstQ (k a w:Nat) (s:St) (n:Nat):Sp:=ofQ (stepQ (topC w) (chP k a)) s n
end
section
open Go.RowKit
structure NextOK (next:St→Sp) (G:Nat) (s:St):Prop where
 uq:Uq (next s)
 nz:nzQ (next s)≠[]
 len:(next s).length≤2
 gr:∀p∈next s,Gr G 1 p.2
set_option maxHeartbeats 4000000 in
theorem o_10d {f:FuncId} {next:St→Sp} {T1:TypeId} {x0 x1 x2:D} (ho1:T1<1000000) (P:St→Prop) (l:Sp) (G D B:Nat) (hu:Uq l) (hok:∀p∈nzQ l,P p.1) (hnz:nzQ l≠[]) (h12:(nzQ l).length≤40) (hl:l.length≤1000000) (hD:0<D) (hB:1≤B) (hgl:∀p∈l,Gr D B p.2) (hG:0<G) (hf:∀s:St,P s→NextOK next G s∧Eqn Tryz.prog f [.d (.agg (stD s)),.p 0 0] [⟨T1,[.d x0,.d x1,.d x2]⟩] (.mp 1) [⟨T1,[.d x0,.d x1,.d x2]⟩,spO (next s)]) (hsz:size (80*B*(D*G))≤100000) :
  Eqn Tryz.prog o_aa [.mp 0,.fn (.func f) [.p 1 0]] [spO l,⟨T1,[.d x0,.d x1,.d x2]⟩] (.mp 2) [spO l,⟨T1,[.d x0,.d x1,.d x2]⟩,spO (timesQ next l)]:=by
 refine Eqn.gen [0,1,2] o_ac (by simp) (by simp) (by rfl) (by decide) (by simp) (by simp [spO,ho1]) ?_
 obtain ⟨A,hA⟩:∃A,A=atQ l:=⟨_,rfl⟩
 have hAl:A.length≤40:=by rw [hA,(o_vn l).length_eq];exact h12
 have hA0:1≤A.length:=by
  rw [hA,(o_vn l).length_eq]
  rcases Nat.eq_zero_or_pos (nzQ l).length with e | e
  ·exact absurd (List.eq_nil_of_length_eq_zero e) hnz
  ·exact e
 have hAm:∀p∈A,p∈l:=fun p hp=>(List.mem_filter.1 ((o_vn l).mem_iff.1 (hA▸hp))).1
 have hAz:∀p∈A,p∈nzQ l:=fun p hp=>(o_vn l).mem_iff.1 (hA▸hp)
 have hDG:0<D*G:=Nat.mul_pos hD hG
 have hBD:size (B*D)≤100000:=by
  refine Nat.le_trans (o_lw ?_) hsz
  calc B*D=B*D*1:=(Nat.mul_one _).symm
   _≤B*D*(80*G):=Nat.mul_le_mul_left _ (by omega)
   _=80*B*(D*G):=by simp [Nat.mul_comm,Nat.mul_left_comm,Nat.mul_assoc]
 have hat:=o_zf l hu hnz h12 hl (fun p hp=>(hgl p hp).rs hD hB hBD)
 have hGs:size (1*G)≤100000:=by
  refine Nat.le_trans (o_lw ?_) hsz
  calc 1*G≤(80*B*D)*G:=Nat.mul_le_mul_right _ (Nat.mul_pos (by omega) hD)
   _=80*B*(D*G):=by rw [Nat.mul_assoc]
 have hgn:∀s:St,P s→∀p∈next s,Gr G 1 p.2:=fun s hs=>(hf s hs).1.gr
 have hnl:∀s:St,P s→(atQ (next s)).length≤2:=fun s hs=>Nat.le_trans (o_zw _) (hf s hs).1.len
 have hout:=o_zs (D:=D) (E:=G) (B:=B) (J:=2) (next:=next) (A:=A) (fun p hp=>hgl p (hAm p hp)) (fun p hp=>⟨hgn p.1 (hok p (hAz p hp)),hnl p.1 (hok p (hAz p hp))⟩)
 have hon:=o_zo next A
 have hoa:outQ next A A.length=timesQ next l:=by rw [hA];exact o_zp next l
 have hADl:=o_v5 rcD (fun _=>rfl) A
 have hget:=o_zy A
 rw [←hoa]
 rw [←hA] at hat
 have hcl:∀s:St,P s→Eqn Tryz.prog f [.d (.agg (stD s)),.p 0 0] [⟨T1,[.d x0,.d x1,.d x2]⟩] (.mp 1) [⟨T1,[.d x0,.d x1,.d x2]⟩,spO (next s)]∧Eqn Tryz.prog o_aj [.mp 0] [spO (next s)] (.d (.sl (atQ (next s)).length (spD rcD (atQ (next s))))) [spO (next s)]:=fun s hs=>by
  obtain ⟨hn,hh⟩:=hf s hs
  refine ⟨hh,o_zf _ hn.uq hn.nz ?_ ?_ fun p hp=>(hgn s hs p hp).rs hG (Nat.le_refl _) hGs⟩
  ·exact Nat.le_trans (List.length_filter_le _ _) (Nat.le_trans hn.len (by omega))
  ·exact Nat.le_trans hn.len (by omega)
 have hAok:∀p∈A,P p.1:=fun p hp=>hok p (hAz p hp)
 clear hA hoa hnz hf
 refine cc (c':=?z197) ?_ ?_
 case refine_1=>cbv<;>exact rfl
 try simp only [spO] at hat hcl ⊢
 generalize hLl:spD rcD l=LL at *
 refine A00 ?_;try with_reducible exact tt
 refine CallS.g [0] (hat) (R0 ?_);try with_reducible exact tt
 refine AW.loopG (α:=Nat) (fun i=>setS (List.replicate 40 .junk) [(1,.fn (.func f) [.p 1 0]),(5,.mp 2),(12,.d (.sl A.length (spD rcD A))),(13,.d (.int .i64 A.length)),(14,.d (.int .i64 (i:Nat)))]) (fun i=>[some ⟨1000391,LL.map .d⟩,some ⟨T1,[.d x0,.d x1,.d x2]⟩,some ⟨1000391,(spD rcD (outQ next A i)).map .d⟩]) (fun i=>i≤A.length) (fun i=>A.length-i) 0 ?_ (Nat.zero_le _) ?_ ?_ ?_
 ·intro i hi;simp
 ·simp
 ·simp [outQ,spD]
 rintro i hi
 simp
 by_cases hi2:i<A.length
 ·have hi3:(i:Int)<A.length:=by omega
  obtain ⟨s1,s2,s3,q,N1,N2,N3,hp,hN,hg⟩:=hget i hi2
  have hsk:=hAok _ (List.getElem_mem hi2)
  rw [hp] at hsk
  obtain ⟨hof,han⟩:=hcl (s1,s2,s3) hsk
  have hgq:Gr D B q:=by have:=hgl _ (hAm _ (List.getElem_mem hi2));rw [hp] at this;exact this
  have hon1:=hon i hi2
  rw [hp] at hon1
  simp only at hon1
  have hgo:=hout i hi
  have hn2:=hnl (s1,s2,s3) hsk
  have hgn2:=hgn (s1,s2,s3) hsk
  obtain ⟨C,hC⟩:∃C,C=atQ (next (s1,s2,s3)):=⟨_,rfl⟩
  have hCm:∀p∈C,Gr G 1 p.2:=fun p hp=>hgn2 p (List.mem_filter.1 ((o_vn _).mem_iff.1 (hC▸hp))).1
  rw [←hC] at hon1 han hn2
  have hCl:=o_v5 rcD (fun _=>rfl) C
  have hgetC:=o_zy C
  have ewi:IntKind.i64.wrap ((i:Int)+1)=((i+1:Nat):Int):=by rw [w64 (by omega) (by omega)];omega
  simp only [stD] at hof han
  generalize hNL:spD rcD (next (s1,s2,s3))=NL at *
  have hb6:i*6+6≤A.length*6:=by omega
  have hb7:i*6<A.length*6:=by omega
  refine A10 (fs hi2 (fs hi3 (fs hg (fs hADl (fs hb6 hb7))))) ?_;try with_reducible exact tt
  refine CallS.g [1] (hof) (R0 ?_);try with_reducible exact tt
  refine CallS.g [4] (han) (R0 ?_);try with_reducible exact tt
  refine AW.loopG (α:=Nat) (fun j=>setS (List.replicate 40 .junk) [(1,.fn (.func f) [.p 1 0]),(5,.mp 2),(7,.p 3 0),(12,.d (.sl A.length (spD rcD A))),(13,.d (.int .i64 A.length)),(14,.d (.int .i64 (i:Nat))),(22,.d (.sl C.length (spD rcD C))),(23,.d (.int .i64 C.length)),(24,.d (.int .i64 (j:Nat)))]) (fun j=>[some ⟨1000391,LL.map .d⟩,some ⟨T1,[.d x0,.d x1,.d x2]⟩,some ⟨1000391,(spD rcD (innQ q (outQ next A i) (C.take j))).map .d⟩,some ⟨54,[.d (.int .i64 s1),.d (.int .i64 s2),.d (.bool s3),.d N1,.d N2,.d N3]⟩]) (fun j=>j≤C.length) (fun j=>C.length-j) 0 ?_ (Nat.zero_le _) ?_ ?_ ?_
  ·intro j hj;simp
  ·simp
  ·simp [innQ]
  rintro j hj
  simp
  by_cases hj2:j<C.length
  ·have hj3:(j:Int)<C.length:=by omega
   obtain ⟨t1,t2,t3,r,M1,M2,M3,hpc,hM,hgc⟩:=hgetC j hj2
   have hinn:=o_zn q (outQ next A i) C j hj2
   have hgr:=hCm _ (List.getElem_mem hj2)
   rw [hpc] at hinn hgr
   simp only at hinn hgr
   have hqr:=hgq.mul hgr
   have hgi:=o_zr (q:=q) (B:=B) hgo (C.take j) (fun p hp=>by
    have:=hgq.mul (hCm p (List.mem_of_mem_take hp))
    rwa [Nat.mul_one] at this)
   have hget2:=(o_zq hgi (t1,t2,t3)).le (C:=80*B) (by
    have e1:(C.take j).length≤2:=by rw [List.length_take];omega
    have e2:=Nat.mul_le_mul_right B e1
    have e3:i*2*B≤78*B:=Nat.mul_le_mul_right _ (by omega)
    omega)
   have hq1:=hgq.rs hD hB hBD
   have hr1:=hgr.rs hG (Nat.le_refl _) hGs
   have hmul:=o_sy q r hq1 hr1
   have hadd:=o_x8 (innQ q (outQ next A i) (C.take j)) (t1,t2,t3) (q*r) (hget2.rs hDG (by omega) hsz) ((hqr.le (C:=80*B) (by omega)).rs hDG (by omega) hsz)
   have ewj:IntKind.i64.wrap ((j:Int)+1)=((j+1:Nat):Int):=by rw [w64 (by omega) (by omega)];omega
   have hc6:j*6+6≤C.length*6:=by omega
   have hc7:j*6<C.length*6:=by omega
   rw [←hinn] at hadd
   rw [o_x5 q,o_x5 r,o_x5 (q*r),hN,hM] at hmul
   rw [o_x5 (q*r)] at hadd
   obtain ⟨P1,P2,P3,hP⟩:∃P1 P2 P3,rcD (q*r)=[P1,P2,P3]:=⟨_,_,_,rfl⟩
   rw [hP] at hmul hadd
   simp only [spO,stD] at hadd
   refine A10 (fs hj2 (fs hj3 (fs hgc (fs hCl (fs hc6 hc7))))) ?_;try with_reducible exact tt
   refine CallS.pu (hmul) (R0 ?_);try with_reducible exact tt
   refine CallS.g [2] (hadd) (R0 ?_);try with_reducible exact tt
   refine A10 ewj ?_;try with_reducible exact tt
   refine ⟨j+1,2,2,⟨by omega,by omega,by omega,by omega⟩,by omega,by omega,?_,?_⟩
   ·simp [swT,swH,sw,Ob.sw,V.ren,V.rens]
   ·simp [swT,swH,sw,Ob.sw,V.ren,V.rens]
  ·have h2:j=C.length:=by omega
   subst h2
   rw [List.take_length,←hon1]
   refine A00 ?_;try with_reducible exact tt
   refine A10 ewi ?_;try with_reducible exact tt
   refine ⟨i+1,2,2,⟨by omega,by omega,by omega,by omega⟩,by omega,by omega,?_,?_⟩
   ·simp [swT,swH,sw,Ob.sw,V.ren,V.rens]
   ·simp [swT,swH,sw,Ob.sw,V.ren,V.rens]
 ·have h2:i=A.length:=by omega
  subst h2
  refine A00 ?_;try with_reducible exact tt
set_option maxHeartbeats 4000000 in
theorem o_10e {f:FuncId} {next:St→Sp} {T1 T2:TypeId} {x0 x1 x2 y0 y1 y2:D} (ho1:T1<1000000) (ho2:T2<1000000) (P:St→Prop) (l:Sp) (G D B:Nat) (hu:Uq l) (hok:∀p∈nzQ l,P p.1) (hnz:nzQ l≠[]) (h12:(nzQ l).length≤40) (hl:l.length≤1000000) (hD:0<D) (hB:1≤B) (hgl:∀p∈l,Gr D B p.2) (hG:0<G) (hf:∀s:St,P s→NextOK next G s∧Eqn Tryz.prog f [.d (.agg (stD s)),.p 0 0,.p 1 0] [⟨T1,[.d x0,.d x1,.d x2]⟩,⟨T2,[.d y0,.d y1,.d y2]⟩] (.mp 2) [⟨T1,[.d x0,.d x1,.d x2]⟩,⟨T2,[.d y0,.d y1,.d y2]⟩,spO (next s)]) (hsz:size (80*B*(D*G))≤100000) :
  Eqn Tryz.prog o_aa [.mp 0,.fn (.func f) [.p 1 0,.p 2 0]] [spO l,⟨T1,[.d x0,.d x1,.d x2]⟩,⟨T2,[.d y0,.d y1,.d y2]⟩] (.mp 3) [spO l,⟨T1,[.d x0,.d x1,.d x2]⟩,⟨T2,[.d y0,.d y1,.d y2]⟩,spO (timesQ next l)]:=by
 refine Eqn.gen [0,1,2,3] o_ac (by simp) (by simp) (by rfl) (by decide) (by simp) (by simp [spO,ho1,ho2]) ?_
 obtain ⟨A,hA⟩:∃A,A=atQ l:=⟨_,rfl⟩
 have hAl:A.length≤40:=by rw [hA,(o_vn l).length_eq];exact h12
 have hA0:1≤A.length:=by
  rw [hA,(o_vn l).length_eq]
  rcases Nat.eq_zero_or_pos (nzQ l).length with e | e
  ·exact absurd (List.eq_nil_of_length_eq_zero e) hnz
  ·exact e
 have hAm:∀p∈A,p∈l:=fun p hp=>(List.mem_filter.1 ((o_vn l).mem_iff.1 (hA▸hp))).1
 have hAz:∀p∈A,p∈nzQ l:=fun p hp=>(o_vn l).mem_iff.1 (hA▸hp)
 have hDG:0<D*G:=Nat.mul_pos hD hG
 have hBD:size (B*D)≤100000:=by
  refine Nat.le_trans (o_lw ?_) hsz
  calc B*D=B*D*1:=(Nat.mul_one _).symm
   _≤B*D*(80*G):=Nat.mul_le_mul_left _ (by omega)
   _=80*B*(D*G):=by simp [Nat.mul_comm,Nat.mul_left_comm,Nat.mul_assoc]
 have hat:=o_zf l hu hnz h12 hl (fun p hp=>(hgl p hp).rs hD hB hBD)
 have hGs:size (1*G)≤100000:=by
  refine Nat.le_trans (o_lw ?_) hsz
  calc 1*G≤(80*B*D)*G:=Nat.mul_le_mul_right _ (Nat.mul_pos (by omega) hD)
   _=80*B*(D*G):=by rw [Nat.mul_assoc]
 have hgn:∀s:St,P s→∀p∈next s,Gr G 1 p.2:=fun s hs=>(hf s hs).1.gr
 have hnl:∀s:St,P s→(atQ (next s)).length≤2:=fun s hs=>Nat.le_trans (o_zw _) (hf s hs).1.len
 have hout:=o_zs (D:=D) (E:=G) (B:=B) (J:=2) (next:=next) (A:=A) (fun p hp=>hgl p (hAm p hp)) (fun p hp=>⟨hgn p.1 (hok p (hAz p hp)),hnl p.1 (hok p (hAz p hp))⟩)
 have hon:=o_zo next A
 have hoa:outQ next A A.length=timesQ next l:=by rw [hA];exact o_zp next l
 have hADl:=o_v5 rcD (fun _=>rfl) A
 have hget:=o_zy A
 rw [←hoa]
 rw [←hA] at hat
 have hcl:∀s:St,P s→Eqn Tryz.prog f [.d (.agg (stD s)),.p 0 0,.p 1 0] [⟨T1,[.d x0,.d x1,.d x2]⟩,⟨T2,[.d y0,.d y1,.d y2]⟩] (.mp 2) [⟨T1,[.d x0,.d x1,.d x2]⟩,⟨T2,[.d y0,.d y1,.d y2]⟩,spO (next s)]∧Eqn Tryz.prog o_aj [.mp 0] [spO (next s)] (.d (.sl (atQ (next s)).length (spD rcD (atQ (next s))))) [spO (next s)]:=fun s hs=>by
  obtain ⟨hn,hh⟩:=hf s hs
  refine ⟨hh,o_zf _ hn.uq hn.nz ?_ ?_ fun p hp=>(hgn s hs p hp).rs hG (Nat.le_refl _) hGs⟩
  ·exact Nat.le_trans (List.length_filter_le _ _) (Nat.le_trans hn.len (by omega))
  ·exact Nat.le_trans hn.len (by omega)
 have hAok:∀p∈A,P p.1:=fun p hp=>hok p (hAz p hp)
 clear hA hoa hnz hf
 refine cc (c':=?z198) ?_ ?_
 case refine_1=>cbv<;>exact rfl
 try simp only [spO] at hat hcl ⊢
 generalize hLl:spD rcD l=LL at *
 refine A00 ?_;try with_reducible exact tt
 refine CallS.g [0] (hat) (R0 ?_);try with_reducible exact tt
 refine AW.loopG (α:=Nat) (fun i=>setS (List.replicate 40 .junk) [(1,.fn (.func f) [.p 1 0,.p 2 0]),(5,.mp 3),(12,.d (.sl A.length (spD rcD A))),(13,.d (.int .i64 A.length)),(14,.d (.int .i64 (i:Nat)))]) (fun i=>[some ⟨1000391,LL.map .d⟩,some ⟨T1,[.d x0,.d x1,.d x2]⟩,some ⟨T2,[.d y0,.d y1,.d y2]⟩,some ⟨1000391,(spD rcD (outQ next A i)).map .d⟩]) (fun i=>i≤A.length) (fun i=>A.length-i) 0 ?_ (Nat.zero_le _) ?_ ?_ ?_
 ·intro i hi;simp
 ·simp
 ·simp [outQ,spD]
 rintro i hi
 simp
 by_cases hi2:i<A.length
 ·have hi3:(i:Int)<A.length:=by omega
  obtain ⟨s1,s2,s3,q,N1,N2,N3,hp,hN,hg⟩:=hget i hi2
  have hsk:=hAok _ (List.getElem_mem hi2)
  rw [hp] at hsk
  obtain ⟨hof,han⟩:=hcl (s1,s2,s3) hsk
  have hgq:Gr D B q:=by have:=hgl _ (hAm _ (List.getElem_mem hi2));rw [hp] at this;exact this
  have hon1:=hon i hi2
  rw [hp] at hon1
  simp only at hon1
  have hgo:=hout i hi
  have hn2:=hnl (s1,s2,s3) hsk
  have hgn2:=hgn (s1,s2,s3) hsk
  obtain ⟨C,hC⟩:∃C,C=atQ (next (s1,s2,s3)):=⟨_,rfl⟩
  have hCm:∀p∈C,Gr G 1 p.2:=fun p hp=>hgn2 p (List.mem_filter.1 ((o_vn _).mem_iff.1 (hC▸hp))).1
  rw [←hC] at hon1 han hn2
  have hCl:=o_v5 rcD (fun _=>rfl) C
  have hgetC:=o_zy C
  have ewi:IntKind.i64.wrap ((i:Int)+1)=((i+1:Nat):Int):=by rw [w64 (by omega) (by omega)];omega
  simp only [stD] at hof han
  generalize hNL:spD rcD (next (s1,s2,s3))=NL at *
  have hb6:i*6+6≤A.length*6:=by omega
  have hb7:i*6<A.length*6:=by omega
  refine A10 (fs hi2 (fs hi3 (fs hg (fs hADl (fs hb6 hb7))))) ?_;try with_reducible exact tt
  refine CallS.g [1,2] (hof) (R0 ?_);try with_reducible exact tt
  refine CallS.g [5] (han) (R0 ?_);try with_reducible exact tt
  refine AW.loopG (α:=Nat) (fun j=>setS (List.replicate 40 .junk) [(1,.fn (.func f) [.p 1 0,.p 2 0]),(5,.mp 3),(7,.p 4 0),(12,.d (.sl A.length (spD rcD A))),(13,.d (.int .i64 A.length)),(14,.d (.int .i64 (i:Nat))),(22,.d (.sl C.length (spD rcD C))),(23,.d (.int .i64 C.length)),(24,.d (.int .i64 (j:Nat)))]) (fun j=>[some ⟨1000391,LL.map .d⟩,some ⟨T1,[.d x0,.d x1,.d x2]⟩,some ⟨T2,[.d y0,.d y1,.d y2]⟩,some ⟨1000391,(spD rcD (innQ q (outQ next A i) (C.take j))).map .d⟩,some ⟨54,[.d (.int .i64 s1),.d (.int .i64 s2),.d (.bool s3),.d N1,.d N2,.d N3]⟩]) (fun j=>j≤C.length) (fun j=>C.length-j) 0 ?_ (Nat.zero_le _) ?_ ?_ ?_
  ·intro j hj;simp
  ·simp
  ·simp [innQ]
  rintro j hj
  simp
  by_cases hj2:j<C.length
  ·have hj3:(j:Int)<C.length:=by omega
   obtain ⟨t1,t2,t3,r,M1,M2,M3,hpc,hM,hgc⟩:=hgetC j hj2
   have hinn:=o_zn q (outQ next A i) C j hj2
   have hgr:=hCm _ (List.getElem_mem hj2)
   rw [hpc] at hinn hgr
   simp only at hinn hgr
   have hqr:=hgq.mul hgr
   have hgi:=o_zr (q:=q) (B:=B) hgo (C.take j) (fun p hp=>by
    have:=hgq.mul (hCm p (List.mem_of_mem_take hp))
    rwa [Nat.mul_one] at this)
   have hget2:=(o_zq hgi (t1,t2,t3)).le (C:=80*B) (by
    have e1:(C.take j).length≤2:=by rw [List.length_take];omega
    have e2:=Nat.mul_le_mul_right B e1
    have e3:i*2*B≤78*B:=Nat.mul_le_mul_right _ (by omega)
    omega)
   have hq1:=hgq.rs hD hB hBD
   have hr1:=hgr.rs hG (Nat.le_refl _) hGs
   have hmul:=o_sy q r hq1 hr1
   have hadd:=o_x8 (innQ q (outQ next A i) (C.take j)) (t1,t2,t3) (q*r) (hget2.rs hDG (by omega) hsz) ((hqr.le (C:=80*B) (by omega)).rs hDG (by omega) hsz)
   have ewj:IntKind.i64.wrap ((j:Int)+1)=((j+1:Nat):Int):=by rw [w64 (by omega) (by omega)];omega
   have hc6:j*6+6≤C.length*6:=by omega
   have hc7:j*6<C.length*6:=by omega
   rw [←hinn] at hadd
   rw [o_x5 q,o_x5 r,o_x5 (q*r),hN,hM] at hmul
   rw [o_x5 (q*r)] at hadd
   obtain ⟨P1,P2,P3,hP⟩:∃P1 P2 P3,rcD (q*r)=[P1,P2,P3]:=⟨_,_,_,rfl⟩
   rw [hP] at hmul hadd
   simp only [spO,stD] at hadd
   refine A10 (fs hj2 (fs hj3 (fs hgc (fs hCl (fs hc6 hc7))))) ?_;try with_reducible exact tt
   refine CallS.pu (hmul) (R0 ?_);try with_reducible exact tt
   refine CallS.g [3] (hadd) (R0 ?_);try with_reducible exact tt
   refine A10 ewj ?_;try with_reducible exact tt
   refine ⟨j+1,3,3,⟨by omega,by omega,by omega,by omega⟩,by omega,by omega,?_,?_⟩
   ·simp [swT,swH,sw,Ob.sw,V.ren,V.rens]
   ·simp [swT,swH,sw,Ob.sw,V.ren,V.rens]
  ·have h2:j=C.length:=by omega
   subst h2
   rw [List.take_length,←hon1]
   refine A00 ?_;try with_reducible exact tt
   refine A10 ewi ?_;try with_reducible exact tt
   refine ⟨i+1,3,3,⟨by omega,by omega,by omega,by omega⟩,by omega,by omega,?_,?_⟩
   ·simp [swT,swH,sw,Ob.sw,V.ren,V.rens]
   ·simp [swT,swH,sw,Ob.sw,V.ren,V.rens]
 ·have h2:i=A.length:=by omega
  subst h2
  refine A00 ?_;try with_reducible exact tt
end
section
open Go.RowKit
theorem o_10f (n:Nat):wD (n:Int) = .agg [natW n,.bool false]:=by
 unfold wD
 rw [Int.natAbs_natCast]
 congr 4
theorem o_10g (p q:Nat) (h0:0<q) (hp:size p≤900000) (hq:size q≤900000):Eqn Tryz.prog o_b4 [.d (.agg [natW p,.bool false]),.d (.agg [natW q,.bool false])] [] (.tup [.d (rD (mkRat p q)),.d (.int .i64 0)]) []:=by
 refine Eqn.pure o_b6 Plain.ok ?_
 have ha:=o_mf q false
 have hp1:=o_mf p false
 have hn1:=o_mg p false
 have hn2:=o_mg q false
 have hz:=o_ld q
 have hq0:(q==0)=false:=by simp;omega
 rw [hq0] at hz
 have h4:=o_so false p (p:Int) rfl
 have h5:=o_sv (p:Int) q h0 (by rw [Int.natAbs_natCast];exact hp) hq
 rw [o_10f] at h4 h5
 refine cc (c':=?z199) ?_ ?_
 case refine_1=>cbv<;>exact rfl
 try simp only [rD] at h5 ⊢
 refine G0 ?_;try with_reducible exact tt
 refine CallS.pu (ha) (R0 ?_);try with_reducible exact tt
 refine CallS.pu (hz) (R0 ?_);try with_reducible exact tt
 refine AW.cond rfl (fun h=>?_) (fun h=>?_)
 ·simp at h
 refine G0 ?_;try with_reducible exact tt
 refine CallS.pu (hn1) (R0 ?_);try with_reducible exact tt
 refine CallS.pu (hn2) (R0 ?_);try with_reducible exact tt
 refine CallS.pu (hp1) (R0 ?_);try with_reducible exact tt
 refine CallS.pu (h4) (R0 ?_);try with_reducible exact tt
 refine CallS.pu (ha) (R0 ?_);try with_reducible exact tt
 refine CallS.pu (h5) (R0 ?_);try with_reducible exact tt
theorem o_10h (x y:Rat) (hx:RS x 100000) (hy:RS y 100000) (hx0:0≤x.num) (hy0:0<y.num):Eqn Tryz.prog o_gb [.d (rD x),.d (rD y)] [] (.tup [.d (rD (x/y)),.d (.int .i64 0)]) []:=by
 refine Eqn.pure o_gd Plain.ok ?_
 have x1:=hx.1;have x2:=hx.2;have y1:=hy.1;have y2:=hy.2
 obtain ⟨u,hu⟩:∃u:Nat,x.num=(u:Int):=⟨x.num.natAbs,by omega⟩
 obtain ⟨v,hv⟩:∃v:Nat,y.num=(v:Int):=⟨y.num.natAbs,by omega⟩
 have hu2:x.num.natAbs=u:=by omega
 have hv2:y.num.natAbs=v:=by omega
 have h1:=o_sr x.num y.den (by omega) (by rw [Int.natAbs_natCast];omega)
 have h2:=o_sr y.num x.den (by omega) (by rw [Int.natAbs_natCast];omega)
 have h3:=o_sx x (by omega)
 have h4:=o_sx y (by omega)
 rw [hu2] at x1;rw [hv2] at y1
 have s1:=o_sk u y.den
 have s2:=o_sk v x.den
 have h5:=o_10g (u*y.den) (v*x.den) (Nat.mul_pos (by omega) x.den_pos) (by omega) (by omega)
 have e:mkRat ((u*y.den:Nat):Int) (v*x.den)=x/y:=by
  have hd:=o_zl x.den_pos
  have hd2:=o_zl y.den_pos
  have hv0:(v:Rat)≠0:=o_zl (by omega)
  have ex:x=(u:Rat)/(x.den:Rat):=by
   have h:=Rat.mkRat_self x
   rw [Rat.mkRat_eq_div,hu] at h
   exact h.symm
  have ey:y=(v:Rat)/(y.den:Rat):=by
   have h:=Rat.mkRat_self y
   rw [Rat.mkRat_eq_div,hv] at h
   exact h.symm
  rw [Rat.mkRat_eq_div]
  have k1:(((u*y.den:Nat):Int):Rat)=(u:Rat)*(y.den:Rat):=by push_cast;rfl
  have k2:((v*x.den:Nat):Rat)=(v:Rat)*(x.den:Rat):=by simp
  rw [k1,k2]
  generalize hxd:(x.den:Rat)=xd at *
  generalize hyd:(y.den:Rat)=yd at *
  generalize (u:Rat)=uu at *
  generalize (v:Rat)=vv at *
  rw [ex,ey]
  grind
 rw [e] at h5
 rw [hu] at h1;rw [hv] at h2
 rw [←Int.natCast_mul,o_10f,o_10f,o_10f] at h1 h2
 rw [o_10f] at h3 h4
 refine cc (c':=?z200) ?_ ?_
 case refine_1=>cbv<;>exact rfl
 try simp only [rD,hu2,hv2,hu,hv] at h1 h2 h3 h4 h5 ⊢
 refine G0 ?_;try with_reducible exact tt
 refine CallS.pu (h4) (R0 ?_);try with_reducible exact tt
 refine CallS.pu (h1) (R0 ?_);try with_reducible exact tt
 refine CallS.pu (h3) (R0 ?_);try with_reducible exact tt
 refine CallS.pu (h2) (R0 ?_);try with_reducible exact tt
 refine CallS.pu (h5) (R0 ?_);try with_reducible exact tt
end
section
open Go.RowKit
theorem o_10i:∀a,a<3→∀x,x<15→(placeY a x).shift≤(placeY a (x+1)).shift:=by decide
theorem o_10j {k a w r x:Nat} (h:GoodS k a w) (hk:k≠1) (hr:r≤x) (hx:x≤15):expOf k a r≤expOf k a x:=by
 unfold expOf
 split
 ·exact Nat.div_le_div_right hr
 ·have ha:a<3:=by have:=h.1;omega
  have key:∀d,r+d≤15→(placeY a r).shift≤(placeY a (r+d)).shift:=by
   intro d
   induction d with
   | zero=>intro _;exact Nat.le_refl _
   | succ d ih=>intro hd;exact Nat.le_trans (ih (by omega)) (o_10i a ha (r+d) (by omega))
  have:=key (x-r) (by omega)
  rwa [show r+(x-r)=x by omega] at this
theorem o_10k (e:Nat):mkRat 1 (2^e)*((2^e:Nat):Rat)=1:=by
 rw [Rat.mkRat_eq_div]
 have:=Rat.div_mul_cancel (a:=((1:Int):Rat)) (o_zl (Nat.two_pow_pos e))
 simpa using this
theorem o_10l {e:Nat} (he:e≤63):Gr (2^63) 1 (mkRat 1 (2^e)):=by
 refine ⟨2^(63-e),?_,by rw [Nat.one_mul];exact Nat.pow_le_pow_right (by decide) (by omega)⟩
 have e1:=o_10k e
 have e2:((2^63:Nat):Rat)=((2^e:Nat):Rat)*((2^(63-e):Nat):Rat):=by
  have:2^63=2^e*2^(63-e):=by rw [←Nat.pow_add];congr 1;omega
  rw [this];simp
 rw [e2,←Rat.mul_assoc,e1];grind
theorem o_10m {e f:Nat} (h:f≤e):mkRat 1 (2^e)/mkRat 1 (2^f)=mkRat 1 (2^(e-f)):=by
 have h1:=o_10k e
 have h2:=o_10k f
 have h3:=o_10k (e-f)
 have h4:((2^e:Nat):Rat)=((2^f:Nat):Rat)*((2^(e-f):Nat):Rat):=by
  have:2^e=2^f*2^(e-f):=by rw [←Nat.pow_add];congr 1;omega
  rw [this];simp
 rw [h4] at h1
 generalize mkRat 1 (2^e)=x at *
 generalize mkRat 1 (2^f)=y at *
 generalize mkRat 1 (2^(e-f))=z at *
 generalize ((2^f:Nat):Rat)=u at *
 generalize ((2^(e-f):Nat):Rat)=v at *
 have hy:y≠0:=by intro hy;subst hy;simp at h2
 have:x=z*y:=by grind
 rw [this]
 exact Rat.mul_div_cancel hy
theorem o_10n {a:Nat} (ha:1≤a) (n:Nat):chM a n≠0:=by
 unfold chM
 have h:mkRat (a:Int) (a+1)≠0:=by
  rw [Rat.mkRat_eq_div]
  have h1:((a:Int):Rat)≠0:=o_zl (by omega:0<a)
  have h2:=o_zl (by omega:0<a+1)
  intro e
  have:=Rat.div_mul_cancel (a:=((a:Int):Rat)) h2
  rw [e] at this
  simp at this
  exact h1 (by simpa using this.symm)
 induction n with
 | zero=>simp
 | succ n ih =>
  rw [Rat.pow_succ]
  intro e
  rcases Rat.mul_eq_zero.1 e with e | e
  ·exact ih e
  ·exact h e
theorem o_10o (q:Rat) (m:Nat):∀n,q^(m+n)=q^m*q^n
 | 0=>by simp
 | n+1=>by rw [←Nat.add_assoc,Rat.pow_succ,Rat.pow_succ,o_10o q m n,Rat.mul_assoc]
theorem o_10p {a:Nat} (ha:1≤a) {r x:Nat} (hr:r≤x):chM a x/chM a r=chM a (x-r):=by
 have h:=o_10n ha r
 have e:chM a x=chM a (x-r)*chM a r:=by
  unfold chM
  rw [←o_10o,show x-r+r=x by omega]
 rw [e]
 exact Rat.mul_div_cancel h
theorem gs_a {k a w:Nat} (h:GoodS k a w) (hk:k=1):1≤a∧a≤4:=by
 rcases h.1 with ⟨-,h1,h2⟩ | ⟨h1,-⟩ | ⟨h1,-⟩
 ·exact ⟨h1,h2⟩
 ·omega
 ·omega
theorem o_10q {k a w x:Nat} (h:GoodS k a w) (hx:x≤15):chP k a x≠0:=by
 unfold chP
 split
 ·rename_i hk
  exact o_10n (gs_a h hk).1 x
 ·intro e
  have:=o_10k (expOf k a x)
  rw [e] at this
  simp at this
def ratC (k a r x:Nat):Rat:=if r≤x then chP k a x/chP k a r else 0
theorem o_10r {k a w:Nat} (h:GoodS k a w):∃G:Nat,0<G∧G≤2^63∧(∀x,x≤15→Gr G 1 (chP k a x))∧∀r x,x≤15→Gr G 1 (ratC k a r x):=by
 by_cases hk:k=1
 ·obtain ⟨G,h1,h2,h3⟩:=o_zm h
  refine ⟨G,h1,h2,h3,fun r x hx=>?_⟩
  unfold ratC
  split
  ·rename_i hr
   have:=h3 (x-r) (by omega)
   subst hk
   rw [chP,if_pos rfl] at this ⊢
   rw [chP,if_pos rfl,o_10p (gs_a h rfl).1 hr]
   exact this
  ·exact Gr.zero _ _
 ·refine ⟨2^63,by decide,Nat.le_refl _,fun x hx=>?_,fun r x hx=>?_⟩
  ·rw [chP,if_neg hk]
   have:=o_ql h hk hx
   exact o_10l (by omega)
  ·unfold ratC
   split
   ·rename_i hr
    rw [chP,if_neg hk,chP,if_neg hk,o_10m (o_10j h hk hr hx)]
    have:=o_ql h hk hx
    exact o_10l (by omega)
   ·exact Gr.zero _ _
theorem gr_01 {G:Nat} (hG:0<G) {q:Rat} (h:Gr G 1 q):0≤q∧q≤1:=by
 have hp:(0:Rat)<(G:Rat):=by exact_mod_cast hG
 obtain ⟨z,h1,h2⟩:=h
 refine ⟨?_,?_⟩
 ·apply Classical.byContradiction
  intro hn
  have hz:(0:Rat)≤(z:Rat):=by exact_mod_cast Nat.zero_le z
  have:=Rat.mul_lt_mul_of_pos_right (Rat.not_le.1 hn) hp
  grind
 ·apply Classical.byContradiction
  intro hn
  have hz:(z:Rat)≤(G:Rat):=by exact_mod_cast (by omega:z≤G)
  have:=Rat.mul_lt_mul_of_pos_right (Rat.not_le.1 hn) hp
  grind
theorem o_10s {k a w r x:Nat} (h:GoodS k a w) (hx:x≤15):RS (ratC k a r x) 1000:=by
 obtain ⟨G,h1,h2,-,h3⟩:=o_10r h
 exact (h3 r x hx).rs h1 (Nat.le_refl _) (Nat.le_trans (o_md (Nat.lt_of_le_of_lt (by omega) (by decide:2^63<2^64))) (by omega))
end
section
open Go.RowKit
def RO (q:Rat):Ob:=⟨51,[.d (natW q.num.natAbs),.d (.bool (decide (q.num<0))),.d (natW (q.den-1))]⟩
def SO (s:St):Ob:=⟨35,[.d (.int .i64 s.1),.d (.int .i64 s.2.1),.d (.bool s.2.2)]⟩
theorem o_10t {G:Nat} (hG:0<G) {q:Rat} (h:Gr G 1 q):0≤q.num:=by
 have:=(gr_01 hG h).1
 exact Rat.num_nonneg.2 this
theorem o_10u {k a w:Nat} (h:GoodS k a w) (s:St) (hs:s.1≤topC w) (r:Nat) (hr:r≤s.1) (hrt:r<topC w):Eqn Tryz.prog o_g8 [.d (.agg (stD s)),.p 0 0,.p 1 0] [PO k a w,RO (chP k a r)] (.mp 2) [PO k a w,RO (chP k a r),spO (stepQ (topC w) (ratC k a r) s)]:=by
 have h15:topC w≤15:=by have:=Nat.pow_le_pow_right (n:=2) (by omega) h.2.2;unfold topC;omega
 have hl:=o_xj k a w
 obtain ⟨G,hG,hG63,hc1,hc2⟩:=o_10r h
 have hGs:size (1*G)≤1000:=Nat.le_trans (o_md (Nat.lt_of_le_of_lt (by omega) (by decide:2^63<2^64))) (by omega)
 have hrs:=o_10s (r:=r) (x:=s.1) h (by omega)
 have hst:stepQ (topC w) (ratC k a r) s=onQ w s (ratC k a r s.1):=rfl
 rw [hst]
 have hrc:ratC k a r s.1=chP k a s.1/chP k a r:=by unfold ratC;rw [if_pos hr]
 have hy0:0<(chP k a r).num:=by
  have h1:=o_10t hG (hc1 r (by omega))
  have h2:(chP k a r).num≠0:=fun e=>o_10q h (x:=r) (by omega) (Rat.num_eq_zero.1 e)
  omega
 have key:∃x0 x1 x2:D,Sub1 (.d (.agg [x0,x1,x2])) (.d (rD (if s.1=topC w then 0 else chP k a s.1)))∧Eqn Tryz.prog o_dg [.d (parD k a w),.d (.int .i64 s.1)] [] (.tup [.d (.agg [x0,x1,x2]),.d (.int .i64 0)]) []:=by
  by_cases e:s.1=topC w
  ·refine ⟨_,_,_,by rw [if_pos e];exact o_x6,?_⟩
   have:=o_xi h
   rw [show 2^w-1=s.1 from e.symm] at this
   exact this
  ·refine ⟨_,_,_,by rw [if_neg e];exact Sub1.refl _,o_xh h (by unfold topC at *;omega)⟩
 obtain ⟨x0,x1,x2,hX,hch⟩:=key
 have key2:∃q:Rat,RS q 1000∧onQ w s q=onQ w s (ratC k a r s.1)∧Eqn Tryz.prog o_gb [.d (.agg [x0,x1,x2]),.d (rD (chP k a r))] [] (.tup [.d (rD q),.d (.int .i64 0)]) []:=by
  have hyr:=((hc1 r (by omega)).rs hG (Nat.le_refl _) hGs).le (show 1000≤100000 by omega)
  by_cases e:s.1=topC w
  ·rw [if_pos e] at hX
   refine ⟨0,⟨by decide,by decide⟩,by unfold onQ;rw [if_pos e,if_pos e],?_⟩
   have:=o_10h 0 (chP k a r) ⟨by decide,by decide⟩ hyr (by decide) hy0
   rw [show (0:Rat)/chP k a r=0 by grind] at this
   exact this.sub (Subs.cons hX (Subs.refl _))
  ·rw [if_neg e] at hX
   refine ⟨ratC k a r s.1,hrs,rfl,?_⟩
   have:=o_10h (chP k a s.1) (chP k a r) (((hc1 s.1 (by omega)).rs hG (Nat.le_refl _) hGs).le (by omega)) hyr (o_10t hG (hc1 s.1 (by omega))) hy0
   rw [←hrc] at this
   exact this.sub (Subs.cons hX (Subs.refl _))
 obtain ⟨q,hq,hqo,hdv⟩:=key2
 have hon:=o_yh h s hs q hq (rD q) (Sub1.refl _) ⟨_,_,_,rfl⟩
 rw [hqo] at hon
 refine Eqn.gen [0,1,5] o_ga (by simp) (by simp) (by rfl) (by decide) (by simp) (by simp [spO,PO,RO]) ?_
 refine cc (c':=?z201) ?_ ?_
 case refine_1=>cbv<;>exact rfl
 try simp only [spO,stD,parD,PO,RO,rD] at hl hch hdv hon ⊢
 generalize spD rcD _=L at *
 generalize natW (chP k a r).num.natAbs=Y0 at *
 generalize natW ((chP k a r).den-1)=Y2 at *
 generalize decide ((chP k a r).num<0)=Y1 at *
 generalize natW q.num.natAbs=Z0 at *
 generalize natW (q.den-1)=Z2 at *
 generalize decide (q.num<0)=Z1 at *
 refine A00 ?_;try with_reducible exact tt
 refine CallS.pu (hl) (R0 ?_);try with_reducible exact tt
 refine CallS.pu (hch) (R0 ?_);try with_reducible exact tt
 refine A00 ?_;try with_reducible exact tt
 refine CallS.pu (hdv) (R0 ?_);try with_reducible exact tt
 refine A00 ?_;try with_reducible exact tt
 refine CallS.nX (hon) (R0 ?_);try with_reducible exact tt
theorem o_10v (s o:St):Eqn Tryz.prog o_ge [.d (.agg (stD s)),.p 0 0] [SO o] (.mp 1) [SO o,spO [((s.1,s.2.1,s.2.2 || o.2.2),1)]]:=by
 have hsu:=o_xc (s.1,s.2.1,s.2.2 || o.2.2)
 refine Eqn.gen [0,2] o_gg (by simp) (by simp) (by rfl) (by decide) (by simp) (by simp [spO,SO]) ?_
 obtain ⟨s1,s2,s3⟩:=s
 obtain ⟨o1,o2,o3⟩:=o
 refine cc (c':=?z202) ?_ ?_
 case refine_1=>cbv<;>exact rfl
 try simp only [spO,stD,SO] at hsu ⊢
 generalize spD rcD _=L at *
 cases s3
 ·simp only [Bool.false_or] at hsu
  refine A00 ?_;try with_reducible exact tt
  refine CallS.nX (hsu) (R0 ?_);try with_reducible exact tt
 ·simp only [Bool.true_or] at hsu
  refine A00 ?_;try with_reducible exact tt
  refine CallS.nX (hsu) (R0 ?_);try with_reducible exact tt
end
section
open Go.RowKit
theorem o_10w {P P':St→Prop} {next:St→Sp} (hn:∀s,P s→kyQ P' (nzQ (next s))) {l:Sp} (h:kyQ P l):kyQ P' (timesQ next l):=by
 have key:∀(k out:Sp),kyQ P' out→kyQ P k→kyQ P' (k.foldl (fun out a=>innQ a.2 out (atQ (next a.1))) out):=by
  intro k
  induction k with
  | nil=>intro out h _;exact h
  | cons a k ih =>
   intro out ho hk
   refine ih _ (o_105 ho fun p hp=>hn _ (hk a (by simp)) p ((o_vn _).mem_iff.1 hp)) fun p hp=>hk p (by simp [hp])
 exact key _ _ (fun p hp=>by cases hp) (ky_at h)
def clQ (top k a:Nat) (s:St):Nat→Sp
 | 0=>[(s,1)]
 | r+1=>timesQ (stepQ top (ratC k a r)) (clQ top k a s r)
def fullQ (f:Bool) (s:St):Sp:=[((s.1,s.2.1,s.2.2 || f),1)]
def mgQ (top k a:Nat) (s o:St):Sp:=timesQ (fullQ o.2.2) (clQ top k a s o.1)
theorem cl_uq {top k a:Nat} (s:St):∀r,Uq (clQ top k a s r)
 | 0=>by simp [clQ,Uq]
 | r+1=>o_vx _ _
theorem o_10x {top k a:Nat} (s:St):∀r,exQ (fun _=>1) (clQ top k a s r)=1
 | 0=>by simp only [clQ,exQ];grind
 | r+1=>by
  show exQ (fun _=>1) (timesQ _ (clQ top k a s r))=1
  rw [o_vy]
  have:(fun t=>exQ (fun _=>(1:Rat)) (stepQ top (ratC k a r) t))=fun _=>1:=by
   funext t
   rw [(o_w1 (fun _=>1) top _ t).2]
   split
   ·rfl
   ·grind
  rw [this,o_10x s r]
theorem cl_nz {top k a:Nat} (s:St) (r:Nat):nzQ (clQ top k a s r)≠[]:=by
 intro h
 have h2:=o_10x (top:=top) (k:=k) (a:=a) s r
 have h3:=o_vh (fun _=>(1:Rat)) (clQ top k a s r)
 rw [show (clQ top k a s r).filter (fun p=>decide (p.2≠0))=nzQ (clQ top k a s r) from rfl,h] at h3
 rw [h2] at h3
 exact absurd h3 (by decide)
theorem o_10y {top k a:Nat} {s:St} (hs:okQ top s):∀r,kyQ (reach top s.1 r) (clQ top k a s r)
 | 0=>fun p hp=>by
  simp [clQ] at hp;subst hp
  obtain ⟨a,b,f⟩:=s
  obtain ⟨h1,h2,h3⟩:=hs
  simp only at h1 h2 h3
  subst h2
  cases f with
  | false=>exact .inr ⟨rfl,Nat.le_refl _,Nat.le_refl _,h1⟩
  | true=>left;rw [h3 rfl]
 | r+1=>o_106 (fun t ht=>o_107 ht) (o_10y hs r)
theorem o_10z {k a w:Nat} (h:GoodS k a w) (r:Nat):(∀x,x<topC w→0≤ratC k a r x)∧(∀x,x<topC w→ratC k a r x≤1):=by
 have h15:topC w≤15:=by have:=Nat.pow_le_pow_right (n:=2) (by omega) h.2.2;unfold topC;omega
 obtain ⟨G,hG,-,-,hc⟩:=o_10r h
 exact ⟨fun x hx=>(gr_01 hG (hc r x (by omega))).1,fun x hx=>(gr_01 hG (hc r x (by omega))).2⟩
theorem cl_ok {k a w:Nat} (h:GoodS k a w) {s:St} (hs:okQ (topC w) s):∀r,oklQ (topC w) (clQ (topC w) k a s r)
 | 0=>fun p hp=>by
  simp [clQ] at hp;subst hp
  exact ⟨hs,(by decide:(0:Rat)≤1)⟩
 | r+1=>o_w7 (fun s hs=>o_w8 (o_10z h r).1 (o_10z h r).2 hs) (cl_ok h hs r)
theorem cl_up {k a w:Nat} (h:GoodS k a w) {s:St} (hs:okQ (topC w) s):∀r,r≤topC w→kyQ (fun t=>okQ (topC w) t∧r≤t.1) (clQ (topC w) k a s r)
 | 0,_=>fun p hp=>by
  simp [clQ] at hp;subst hp
  exact ⟨hs,Nat.zero_le _⟩
 | r+1,hr=>by
  have h15:topC w≤15:=by have:=Nat.pow_le_pow_right (n:=2) (by omega) h.2.2;unfold topC;omega
  refine o_10w (P:=fun t=>okQ (topC w) t∧r≤t.1) (fun t ht p hp=>?_) (cl_up h hs r (by omega))
  have hp1:p∈stepQ (topC w) (ratC k a r) t:=(List.mem_filter.1 hp).1
  have hp2:p.2≠0:=by have:=(List.mem_filter.1 hp).2;simpa using this
  refine ⟨(o_w8 (o_10z h r).1 (o_10z h r).2 ht.1 p hp1).1,?_⟩
  obtain ⟨u1,u2⟩:=ht
  rcases Nat.lt_or_ge r t.1 with hlt | hge
  ·unfold stepQ at hp1
   split at hp1
   ·simp at hp1;subst hp1;exact hlt
   ·unfold eitQ at hp1
    rcases o_w2 hp1 with hp1 | rfl
    ·rcases o_w2 hp1 with hp1 | rfl
     ·cases hp1
     ·show r+1≤t.1+1;omega
    ·exact hlt
  ·have e:t.1=r:=by omega
   have hne:¬t.1=topC w:=by omega
   have hc1:ratC k a r t.1=1:=by
    unfold ratC
    rw [e,if_pos (Nat.le_refl _)]
    have:=o_10q h (x:=r) (by omega)
    grind
   unfold stepQ at hp1
   rw [if_neg hne,hc1] at hp1
   have hne2:¬(t.1+1,t.2)=t:=fun he=>by have:=congrArg (fun x:St=>x.1) he;simp at this
   have e2:eitQ 1 (t.1+1,t.2) t=[((t.1+1,t.2),1),(t,0)]:=by
    unfold eitQ addQ
    have hne3:¬t=(t.1+1,t.2):=fun e=>hne2 e.symm
    have z1:(0:Rat)+1=1:=Rat.zero_add 1
    have z2:(0:Rat)+(1-1)=0:=by grind
    simp only [setQ,getQ,if_neg hne3,z1,z2]
   rw [e2] at hp1
   rcases List.mem_cons.1 hp1 with rfl | hp1
   ·show r+1≤t.1+1;omega
   ·rcases List.mem_cons.1 hp1 with rfl | hp1
    ·exact absurd rfl hp2
    ·cases hp1
theorem cl_gr {k a w G:Nat} (h:GoodS k a w) (hc:∀r x,x≤15→Gr G 1 (ratC k a r x)) {s:St} (hs:okQ (topC w) s):∀r,r≤15→∀p∈clQ (topC w) k a s r,Gr (G^r) (80^r) p.2
 | 0,_=>fun p hp=>by
  simp [clQ] at hp;subst hp
  exact Gr.one _
 | r+1,hn=>by
  have h15:topC w≤15:=by have:=Nat.pow_le_pow_right (n:=2) (by omega) h.2.2;unfold topC;omega
  have ih:=cl_gr h hc hs r (by omega)
  have hl:=o_109 (cl_uq s r) (o_10y (k:=k) (a:=a) hs r)
  have hA:(atQ (clQ (topC w) k a s r)).length≤40:=Nat.le_trans (o_zw _) (by omega)
  have hm:∀p∈atQ (clQ (topC w) k a s r),p∈clQ (topC w) k a s r:=fun p hp=>(List.mem_filter.1 ((o_vn _).mem_iff.1 hp)).1
  have:=o_zs (D:=G^r) (E:=G) (B:=80^r) (J:=2) (next:=stepQ (topC w) (ratC k a r)) (A:=atQ (clQ (topC w) k a s r)) (fun p hp=>ih p (hm p hp)) (fun p hp=>⟨o_zx (fun x hx=>hc r x (by omega)) p.1 (cl_ok h hs r p (hm p hp)).1.1,Nat.le_trans (o_zw _) (o_zv _ _ _)⟩) _ (Nat.le_refl _)
  rw [o_zp] at this
  intro p hp
  rw [Nat.pow_succ]
  refine (this p hp).le ?_
  rw [Nat.pow_succ,Nat.mul_comm (80^r) 80]
  exact Nat.mul_le_mul_right _ (by omega)
end
section
open Go.RowKit
def plQ (g:Nat→Rat) (s:St):Rat:=g s.1
theorem o_110 {k a w b:Nat} (h:GoodS k a w) (hb:b≤15):ratC k a b b=1:=by
 unfold ratC
 rw [if_pos (Nat.le_refl _)]
 have:=o_10q h hb
 grind
end
section
open Go.RowKit
theorem o_111 (f:Bool) (G:Nat) (s:St):NextOK (fullQ f) G s where
 uq:=by simp [fullQ,Uq]
 nz:=by simp [fullQ,nzQ]
 len:=by simp [fullQ]
 gr:=fun p hp=>by simp [fullQ] at hp;subst hp;exact Gr.one G
theorem o_112 {k a w G:Nat} (h:GoodS k a w) (hc:∀r x,x≤15→Gr G 1 (ratC k a r x)) (r:Nat) (s:St) (hs:s.1≤topC w):NextOK (stepQ (topC w) (ratC k a r)) G s where
 uq:=(o_w1 (fun _=>0) _ _ s).1
 nz:=o_zt s
 len:=o_zv _ _ _
 gr:=o_zx (fun x hx=>hc r x (by
  have:topC w≤15:=by have:=Nat.pow_le_pow_right (n:=2) (by omega) h.2.2;unfold topC;omega
  omega)) s hs
set_option maxHeartbeats 4000000 in
theorem o_113 {k a w:Nat} (h:GoodS k a w) (s o:St) (hs:okQ (topC w) s) (ho:o.1≤topC w) (h7:o.1≤15):Eqn Tryz.prog o_dt [.d (parD k a w),.d (.agg (stD s)),.d (.agg (stD o))] [] (.mp 0) [spO (mgQ (topC w) k a s o)]:=by
 have h15:topC w≤15:=by have:=Nat.pow_le_pow_right (n:=2) (by omega) h.2.2;unfold topC;omega
 obtain ⟨G,hG,hG63,-,hc⟩:=o_10r h
 have hl:=o_xj k a w
 have hsu:=o_xc s
 have hfin:Eqn Tryz.prog o_aa [.mp 0,.fn (.func o_ge) [.p 1 0]] [spO (clQ (topC w) k a s o.1),SO o] (.mp 2) [spO (clQ (topC w) k a s o.1),SO o,spO (mgQ (topC w) k a s o)]:=by
  have hl:=o_109 (cl_uq s o.1) (o_10y (k:=k) (a:=a) hs o.1)
  exact o_10d (by decide) (fun _=>True) (clQ (topC w) k a s o.1) G (G^o.1) (80^o.1) (cl_uq s _) (fun _ _=>trivial) (cl_nz s _) (Nat.le_trans (List.length_filter_le _ _) (Nat.le_trans hl (by omega))) (Nat.le_trans hl (by omega)) (Nat.pow_pos hG) (Nat.pow_pos (by decide)) (cl_gr h hc hs _ (by omega)) hG (fun t _=>⟨o_111 _ _ _,o_10v t o⟩) (o_10b hG63 (by omega)).1
 have hro:∀r,r<o.1→Eqn Tryz.prog o_aa [.mp 0,.fn (.func o_g8) [.p 1 0,.p 2 0]] [spO (clQ (topC w) k a s r),PO k a w,RO (chP k a r)] (.mp 3) [spO (clQ (topC w) k a s r),PO k a w,RO (chP k a r),spO (clQ (topC w) k a s (r+1))]:=fun r hr=>by
  have hl:=o_109 (cl_uq s r) (o_10y (k:=k) (a:=a) hs r)
  exact o_10e (by decide) (by decide) (fun t=>okQ (topC w) t∧r≤t.1) (clQ (topC w) k a s r) G (G^r) (80^r) (cl_uq s _) (fun p hp=>cl_up h hs r (by omega) p (List.mem_filter.1 hp).1) (cl_nz s _) (Nat.le_trans (List.length_filter_le _ _) (Nat.le_trans hl (by omega))) (Nat.le_trans hl (by omega)) (Nat.pow_pos hG) (Nat.pow_pos (by decide)) (cl_gr h hc hs _ (by omega)) hG (fun t ht=>⟨o_112 h hc r t ht.1.1,o_10u h t ht.1.1 r ht.2 (by omega)⟩) (o_10b hG63 (by omega)).1
 have hch:∀r,r<o.1→Eqn Tryz.prog o_dg [.d (parD k a w),.d (.int .i64 r)] [] (.tup [.d (rD (chP k a r)),.d (.int .i64 0)]) []:=fun r hr=>o_xh h (by unfold topC at ho;omega)
 have hd0:clQ (topC w) k a s 0=[(s,1)]:=rfl
 rw [←hd0] at hsu
 obtain ⟨R,hR⟩:∃R,R=mgQ (topC w) k a s o:=⟨_,rfl⟩
 rw [←hR] at hfin ⊢
 obtain ⟨o1,o2,o3⟩:=o
 simp only at ho h7 hfin hro hch
 generalize topC w=W at *
 refine Eqn.gen [4] o_dv (by simp) (by simp) (by rfl) (by decide) (by simp) (by simp [spO]) ?_
 refine cc (c':=?z203) ?_ ?_
 case refine_1=>cbv<;>exact rfl
 try simp only [spO,stD,parD,PO,RO,SO,rD] at hl hsu hfin hro hch ⊢
 refine A00 ?_;try with_reducible exact tt
 refine CallS.nX (hsu) (R0 ?_);try with_reducible exact tt
 refine AW.loopG (α:=Nat) (fun i=>setS (List.replicate 32 .junk) [(3,.p 0 0),(5,.p 2 0),(7,.mp 3),(14,.d (.int .i64 o1)),(15,.d (.int .i64 (i:Nat)))]) (fun i=>[some ⟨29,[.d (.int .i64 k),.d (.int .i64 a),.d (.int .i64 w)]⟩,none,some ⟨35,[.d (.int .i64 o1),.d (.int .i64 o2),.d (.bool o3)]⟩,some ⟨1000391,(spD rcD (clQ W k a s i)).map .d⟩]) (fun i=>i≤o1) (fun i=>o1-i) 0 ?_ (Nat.zero_le _) ?_ ?_ ?_
 ·intro i hi;simp
 ·simp
 ·simp
 rintro i hi
 simp
 by_cases hi2:i<o1
 ·have hi3:(i:Int)<o1:=by omega
  have ew:IntKind.i64.wrap ((i:Int)+1)=((i+1:Nat):Int):=by rw [w64 (by omega) (by omega)];omega
  have ht:=hro i hi2
  have hci:=hch i hi2
  generalize natW (chP k a i).num.natAbs=Z0 at *
  generalize natW ((chP k a i).den-1)=Z2 at *
  generalize decide ((chP k a i).num<0)=Z1 at *
  refine A10 (fs hi2 hi3) ?_;try with_reducible exact tt
  refine CallS.pu (hl) (R0 ?_);try with_reducible exact tt
  refine CallS.pu (hci) (R0 ?_);try with_reducible exact tt
  refine A00 ?_;try with_reducible exact tt
  refine CallS.g [3,0,4] (ht) (R1 ew ?_);try with_reducible exact tt
  refine A10 ew ?_;try with_reducible exact tt
  refine ⟨i+1,3,5,by omega,by omega,by omega,?_,?_⟩
  ·simp [swT,swH,sw,Ob.sw,V.ren,V.rens]
  ·simp [swT,swH,sw,Ob.sw,V.ren,V.rens]
 ·have h2:i=o1:=by omega
  subst h2
  refine A00 ?_;try with_reducible exact tt
  refine CallS.g [3,2] (hfin) (R0 ?_);try with_reducible exact tt
  done
end
section
open Go.RowKit
def stsD (l:List St):List D:=l.flatMap stD
theorem o_114 (l:List St):(stsD l).length=l.length*3:=by
 unfold stsD
 induction l with
 | nil=>rfl
 | cons s l ih=>rw [List.flatMap_cons,List.length_append,ih];simp [stD];omega
theorem o_115 (l:List St) (i:Nat) (hi:i<l.length):((stsD l).drop (i*3)).take 3=[.int .i64 l[i].1,.int .i64 l[i].2.1,.bool l[i].2.2]:=o_6r (n:=3) (f:=stD) (fun _=>rfl) l i hi
theorem o_116 {k a w:Nat} (h:GoodR k a w) (l:List St) (hl:l.length≤1000000) (hw:∀s∈l,WellR k a w s.1 s.2.1 s.2.2):Eqn Tryz.prog o_fh [.d (.sl l.length (stsD l)),.fn (.func o_cy) [.p 0 0]] [PO k a w] (.d (.int .i64 (-1))) [PO k a w]:=by
 refine Eqn.gen [0] o_fj (by simp) (by simp) (by rfl) (by decide) (by simp) (by simp [PO]) ?_
 have hw1:∀i (hi:i<l.length),Eqn Tryz.prog o_cy [.d (.agg [.int .i64 l[i].1,.int .i64 l[i].2.1,.bool l[i].2.2]),.p 0 0] [PO k a w] (.d (.bool false)) [PO k a w]:=fun i hi=>o_100 h l[i] (hw _ (List.getElem_mem hi))
 have hlen:=o_114 l
 have hget:=o_115 l
 refine cc (c':=?z204) ?_ ?_
 case refine_1=>cbv<;>exact rfl
 try simp only [PO] at hw1 ⊢
 refine A00 ?_;try with_reducible exact tt
 refine AW.loopW (α:=Nat) (fun i=>setS (List.replicate 19 .junk) [(0,.d (.sl l.length (stsD l))),(1,.fn (.func o_cy) [.p 0 0]),(7,.d (.int .i64 l.length)),(8,.d (.int .i64 (i:Nat)))]) (fun i=>[some ⟨29,[.d (.int .i64 k),.d (.int .i64 a),.d (.int .i64 w)]⟩]) (fun i=>i≤l.length) (fun i=>l.length-i) 1 (fun _=>rfl) (by simp) 0 (Nat.zero_le _) ?_ ?_ ?_
 ·simp
 ·simp
 rintro i hi
 simp
 by_cases hi2:i<l.length
 ·have hi3:(i:Int)<l.length:=by omega
  have ew:IntKind.i64.wrap ((i:Int)+1)=((i+1:Nat):Int):=by rw [w64 (by omega) (by omega)];omega
  have h1:=hw1 i hi2
  have hg:=hget i hi2
  have hb6:i*3+3≤l.length*3:=by omega
  have hb7:i*3<l.length*3:=by omega
  refine A10 (fs hi2 (fs hi3 (fs hlen (fs hg (fs hb6 hb7))))) ?_;try with_reducible exact tt
  refine CallS.g [0] (h1) (R0 ?_);try with_reducible exact tt
  refine A10 ew ?_;try with_reducible exact tt
  exact ⟨i+1,by omega,by omega,Sub1.refl _⟩
 ·have h2:i=l.length:=by omega
  subst h2
  refine A00 ?_;try with_reducible exact tt
theorem o_117 {k a w:Nat} (h:GoodR k a w) (l:List St) (hl:l.length≤1000000) (hw:∀s∈l,WellR k a w s.1 s.2.1 s.2.2):Eqn Tryz.prog o_cv [.d (.sl l.length (stsD l)),.fn (.func o_cy) [.p 0 0]] [PO k a w] (.d (.bool false)) [PO k a w]:=by
 refine Eqn.gen [0] o_cx (by simp) (by simp) (by rfl) (by decide) (by simp) (by simp [PO]) ?_
 have hi:=o_116 h l hl hw
 refine cc (c':=?z205) ?_ ?_
 case refine_1=>cbv<;>exact rfl
 try simp only [PO] at hi ⊢
 refine A00 ?_;try with_reducible exact tt
 refine CallS.g [0] (hi) (R0 ?_);try with_reducible exact tt
theorem o_118 {k a w:Nat} (h:GoodR k a w) (l:List St) (hl:l.length≤1000000) (hw:∀s∈l,WellR k a w s.1 s.2.1 s.2.2):Eqn Tryz.prog o_a1 [.d (parD k a w),.d (.sl l.length (stsD l))] [] (.d (.int .i64 0)) []:=by
 refine Eqn.pure o_a3 Plain.ok ?_
 have hc:=o_uc h
 have hi:=o_117 h l hl hw
 refine cc (c':=?z206) ?_ ?_
 case refine_1=>cbv<;>exact rfl
 try simp only [PO,parD] at hc hi ⊢
 refine A00 ?_;try with_reducible exact tt
 refine CallS.pu (hc) (R0 ?_);try with_reducible exact tt
 refine A00 ?_;try with_reducible exact tt
 refine CallS.g [0] (hi) (R0 ?_);try with_reducible exact tt
 refine A00 ?_;try with_reducible exact tt
theorem o_119 {k a w:Nat} (h:GoodR k a w) (hk:k≠4) (hw4:w≤4) (l:List St) (hl:l.length≤1000000) (hw:∀s∈l,WellR k a w s.1 s.2.1 s.2.2):Eqn Tryz.prog o_ap [.d (parD k a w),.d (.sl l.length (stsD l))] [] (.d (.int .i64 0)) []:=by
 refine Eqn.pure o_ar Plain.ok ?_
 have h1:=o_118 h l hl hw
 have h2:=o_104 (a:=a) hk (show w≤10 by omega)
 have h16:2^w≤16:=Nat.pow_le_pow_right (n:=2) (by omega) hw4
 generalize 2^w=W at *
 have e1:IntKind.i64.wrap (4*(W:Int))=4*(W:Int):=w64 (by omega) (by omega)
 have e2:¬512<4*(W:Int):=by omega
 refine cc (c':=?z207) ?_ ?_
 case refine_1=>cbv<;>exact rfl
 try simp only [parD] at h1 h2 ⊢
 refine A00 ?_;try with_reducible exact tt
 refine CallS.pu (h1) (R0 ?_);try with_reducible exact tt
 refine A00 ?_;try with_reducible exact tt
 refine CallS.pu (h2) (R1 (fs e1 e2) ?_);try with_reducible exact tt
 refine A10 (fs e1 e2) ?_;try with_reducible exact tt
theorem o_11a {k a w:Nat} (h:GoodS k a w) (s o:St) (hs:okQ (topC w) s) (ho:o.1≤topC w) (h7:o.1≤15):Eqn Tryz.prog o_as [.d (parD k a w),.d (.agg (stD s)),.d (.agg (stD o))] [] (.mp 0) [spO (mgQ (topC w) k a s o)]:=by
 have hc:=o_113 h s o hs ho h7
 have hk4:¬(k:Int)=4:=by have:=h.1;omega
 have hk4':¬k=4:=by have:=h.1;omega
 generalize mgQ (topC w) k a s o=R at *
 refine Eqn.gen [3] o_au (by simp) (by simp) (by rfl) (by decide) (by simp) (by simp [spO]) ?_
 refine cc (c':=?z208) ?_ ?_
 case refine_1=>cbv<;>exact rfl
 try simp only [spO,stD,parD] at hc ⊢
 refine A10 (fs hk4 hk4') ?_;try with_reducible exact tt
 refine CallS.nX (hc) (R0 ?_);try with_reducible exact tt
end
section
open Go.RowKit
def psum (L:Sp) (i:Nat):Rat:=(L.take i).foldl (fun x p=>x+p.2) 0
theorem o_11b (L:Sp) (i:Nat) (h:i<L.length):psum L (i+1)=psum L i+L[i].2:=by
 unfold psum;rw [List.take_add_one,List.getElem?_eq_getElem h,Option.toList,List.foldl_append];rfl
end
end Go.Proofs.YtidfejfgmlakpaaGreat.Am
