/- Parts of the proof: Chain7, Chain8, ChainA, ChainM, ChainB, ChainC, ChainD, ChainE, Mul1, Div1, Mul2, Rat2, DivN, Nat8, Nat9, Nat10, Rat3, Rat4, Rat5, Pow1, Pow2, AmUn, Float3, Rise1, Val1, MorM, Mor1, Chain9, ChainF, ThinM, Thin1, Thin2, Thin3, Reg1, BitsM, Bits1, Bits2, Bits3, Reg2. -/
import Derived.Test.YtidfejfgmlakpaaGreatPc
set_option linter.unusedVariables false
set_option linter.unusedSimpArgs false
set_option maxRecDepth 100000
namespace Go.Proofs.YtidfejfgmlakpaaGreat.Am
section
open Go.RowKit
structure StepOf (cs:List Bool) (ti:TypeId) (d:D) (g:FuncId) (st:StepT):Prop where
 meth : MethOK Tryz.prog ti "tallymark/chain.step" g
 run:∀(x p:Nat) (dd:Bool),p≤cs.length→Eqn Tryz.prog g [.d d,.p 0 0,.d (.int .i64 x)] [tapeO cs p dd] (.tup [.d (.bool (st x p dd).1),.d (.int .i64 (st x p dd).2.1)]) [tapeO cs (st x p dd).2.2.1 (st x p dd).2.2.2]
 le:∀(x p:Nat) (dd:Bool),p≤cs.length→(st x p dd).2.2.1≤cs.length

theorem o_pr (cs:List Bool) (k a:Int) (w:Nat) (w2:w≤10) (ti:TypeId) (d:D) (g:FuncId) (st:StepT) (hst:StepOf cs ti d g st) (hk:kindD k a = .ifc ti d) (hc:Eqn Tryz.prog o_f5 [.d (parD k a w)] [] (.d (.int .i64 0)) [])
  (x:Nat) (hx:x≤2^w-1) (f:Bool) (n:Nat) (m:Int) (hmx:max 0 m=(n:Int)) (hn:m≤1048576) (p:Nat) (dd:Bool) (hp:p≤cs.length) (S:Int×Nat×Bool×Nat×Bool) (hS:S=addL st (2^w-1) n x f p dd) :
  Eqn Tryz.prog o_9m [.d (parD k a w),.p 0 0,.d (.agg [.int .i64 x,.bool f]),.d (.int .i64 m)] [tapeO cs p dd] (.tup [.d (.agg [.int .i64 (if S.1=0 then S.2.1 else x:Nat),.bool (if S.1=0 then S.2.2.1 else f)]),.d (.int .i64 S.1)]) [tapeO cs S.2.2.2.1 S.2.2.2.2]:=by
 refine Eqn.obj1 o_9o (o_lr _ _) ⟨rfl,fun _=>rfl⟩ ?_
 have hat:=o_pi k a w w2 x (by omega) (by omega) hc
 have hkd:=o_nj k a w
 rw [hk] at hkd
 refine cc (c':=?z68) ?_ ?_
 case refine_1=>cbv<;>exact rfl
 try simp only [parD] at hat ⊢
 refine G0B ?_;try with_reducible exact tt
 refine CallS.pf 5 1 ⟨3,_⟩ [.int .i64 x] (hat) (by first | rfl | (simp [-Bool.exists_bool];done)) (R0B ?_);try with_reducible exact tt
 refine AW.cond rfl (fun h=>?_) (fun h=>?_)
 ·simp at h
 clear h
 have g1:¬(1048576:Int)<m:=by omega
 have hnn:n≤1048576:=by omega
 refine G1B g1 ?_;try with_reducible exact tt
 refine AW.cond rfl (fun h=>?_) (fun h=>?_)
 ·simp [g1] at h
 clear h
 refine G0B ?_;try with_reducible exact tt
 refine CallS.pu (hkd) (R1B hmx ?_);try with_reducible exact tt
 refine AW.loopT (α:=Nat×Nat×Nat×Bool) 8 (fun s=>[(31,.d (.int .i64 (s.1:Int)))]) (fun s=>[(0,tapeO cs s.2.2.1 s.2.2.2),(7,⟨75,[.d (.int .i64 (s.2.1:Nat)),.d (.bool f)]⟩)]) (fun s=>s.1≤n∧s.2.1≤2^w-1∧s.2.2.1≤cs.length∧S=addL st (2^w-1) (n-s.1) s.2.1 f s.2.2.1 s.2.2.2) (fun s=>n-s.1) (0,x,p,dd) ?_ ?_ ⟨Nat.zero_le _,hx,hp,hS⟩ ?_ ?_ ?_
 ·simp
 ·simp
 ·simp
 ·simp
 rintro ⟨i,z,q,b⟩ ⟨hi,hz,hq,hS⟩
 simp only at hi hz hq hS
 simp [-Bool.exists_bool]
 have htop:=o_ph k a w w2 hc
 have ho1:=fun T1 t2 (h1:T1<1000000) (h2:t2<1000000)=>o_pl (T1:=T1) (t2:=t2) h1 h2 (ti:=ti) (d:=d) (cs:=cs) (p:=q) (dd:=b) k a w w2 f hc
 have ho2:=fun T1 t2 (h1:T1<1000000) (h2:t2<1000000) (hlt:z<2^w-1)=>o_pm (T1:=T1) (t2:=t2) h1 h2 k a w w2 f hlt hc hst.meth (hst.run z q b hq)
 have hle:=hst.le z q b hq
 have h2:2^w-1≤1023:=by have:=Nat.pow_le_pow_right (n:=2) (by omega) w2;omega
 simp only [parD] at ho1 ho2 htop
 generalize 2^w-1=W at *
 by_cases h:i=n
 ·subst h
  rw [Nat.sub_self,addL] at hS
  refine G0B ?_;try with_reducible exact tt
  refine AW.cond rfl (fun h=>?_) (fun h=>?_)
  ·simp at h
  refine AW.exit ?_
  (try (simp -implicitDefEqProofs [-Bool.exists_bool];try simp (disch:=omega) only [w64,wu64]))
  refine G0B ?_;try with_reducible exact tt
  simp [hS]
 ·have hlt:(i:Int)<n:=by omega
  have hlt':i<n:=by omega
  obtain ⟨r,hr⟩:∃r,n-i=r+1:=⟨n-i-1,by omega⟩
  have ew:IntKind.i64.wrap ((i:Int)+1)=(i:Int)+1:=w64 (by omega) (by omega)
  rw [hr,addL] at hS
  refine G1B (fs hlt hlt') ?_;try with_reducible exact tt
  refine AW.cond rfl (fun h=>?_) (fun h=>?_)
  ·clear h
   by_cases hzt:z=W
   ·subst hzt
    rw [if_pos rfl] at hS
    refine G0B ?_;try with_reducible exact tt
    refine CallS.obj3 0 6 2 (ho1 116 34 (by decide) (by decide)) (by first | exact o_5e _ | exact o_lr _ _ | exact o_ls _ _ _) ⟨rfl,fun _=>rfl⟩ ⟨rfl,fun _=>rfl⟩ ⟨rfl,fun _=>rfl⟩ rfl (by rfl) (by rfl) (by rfl) (by decide) (Subs.of (by simp)) (R0B ?_);try with_reducible exact tt
    refine AW.cond rfl (fun h=>?_) (fun h=>?_)
    ·simp at h
    clear h
    refine G0B ?_;try with_reducible exact tt
    refine CallS.pu (htop) (R0B ?_);try with_reducible exact tt
    refine AW.cond rfl (fun h=>?_) (fun h=>?_)
    ·refine AW.exit ?_
     (try (simp -implicitDefEqProofs [-Bool.exists_bool];try simp (disch:=omega) only [w64,wu64]))
     refine G0B ?_;try with_reducible exact tt
     simp [hS]
    ·simp at h
   ·rw [if_neg hzt] at hS
    have ho2:=fun T1 t2 h1 h2=>ho2 T1 t2 h1 h2 (by omega)
    generalize st z q b=R at *
    obtain ⟨r1,r2,r3,r4⟩:=R
    simp only at hS ho2 hle
    have hz':(if r1=true then z+1 else z)≤W:=by split<;>omega
    generalize (if r1=true then z+1 else z)=z' at *
    refine G0B ?_;try with_reducible exact tt
    refine CallS.obj3 0 6 2 (ho2 116 34 (by decide) (by decide)) (by first | exact o_5e _ | exact o_lr _ _ | exact o_ls _ _ _) ⟨rfl,fun _=>rfl⟩ ⟨rfl,fun _=>rfl⟩ ⟨rfl,fun _=>rfl⟩ rfl (by rfl) (by rfl) (by rfl) (by decide) (Subs.of (by simp)) (R0B ?_);try with_reducible exact tt
    by_cases hr2:r2=0
    ·subst hr2
     rw [if_pos rfl] at hS
     refine AW.cond rfl (fun h=>?_) (fun h=>?_)
     ·simp at h
     clear h
     cases f with
     | false =>
      rw [if_neg (by simp)] at hS
      refine G0B ?_;try with_reducible exact tt
      refine AW.cond rfl (fun h=>?_) (fun h=>?_)
      ·simp at h
      refine G1B ew ?_;try with_reducible exact tt
      exact ⟨i+1,z',r3,r4,⟨by omega,hz',hle,by rw [hS];congr 1;omega⟩,by omega,by simp⟩
     | true =>
      refine G0B ?_;try with_reducible exact tt
      refine CallS.pu (htop) (R0B ?_);try with_reducible exact tt
      by_cases hb:z'=W
      ·rw [if_pos ⟨rfl,hb⟩] at hS
       subst hb
       refine AW.cond rfl (fun h=>?_) (fun h=>?_)
       ·refine AW.exit ?_
        (try (simp -implicitDefEqProofs [-Bool.exists_bool];try simp (disch:=omega) only [w64,wu64]))
        refine G0B ?_;try with_reducible exact tt
        simp [hS]
       ·simp at h
      ·rw [if_neg (by simp [hb])] at hS
       have hb':¬(z':Int)=W:=by omega
       refine AW.cond rfl (fun h=>?_) (fun h=>?_)
       ·simp [hb,hb'] at h
       refine G1B ew ?_;try with_reducible exact tt
       exact ⟨i+1,z',r3,r4,⟨by omega,hz',hle,by rw [hS];congr 1;omega⟩,by omega,by simp⟩
    ·rw [if_neg hr2] at hS
     refine AW.cond rfl (fun h=>?_) (fun h=>?_)
     ·refine G0B ?_;try with_reducible exact tt
      simp [hS,hr2]
     ·simp [hr2] at h
  ·simp [hlt'] at h
end
section
open Go.RowKit
theorem o_ps {cs:List Bool}:∀(k p:Nat) (dd:Bool),p≤cs.length→(halfR cs k p dd).2.2.1≤cs.length
 | 0,p,dd,h=>h
 | k+1,p,dd,h=>by
  rw [halfR]
  split
  ·exact o_ps k _ _ (o_mp h)
  ·exact o_mp h
theorem o_pt {cs:List Bool} {a q:Nat}:∀(k p:Nat) (dd:Bool),p≤cs.length→(powerR cs a q k p dd).2.2.1≤cs.length
 | 0,p,dd,h=>h
 | k+1,p,dd,h=>by
  rw [powerR]
  split
  ·exact o_pt k _ _ (o_n1 h)
  ·exact o_n1 h
theorem o_pu {cs:List Bool} {a k:Int} {p:Nat} {dd:Bool} (h:p≤cs.length):(stepM cs a k p dd).2.2.1≤cs.length:=by
 unfold stepM;split
 ·exact o_pt _ _ _ h
 ·exact h
theorem o_pv {cs:List Bool} {a k:Int} {p:Nat} {dd:Bool} (h:p≤cs.length):(stepG cs a k p dd).2.2.1≤cs.length:=by
 unfold stepG;split
 ·exact o_ps _ _ _ h
 ·exact h
theorem o_pw {cs:List Bool} {a k:Int} {p:Nat} {dd:Bool} (h:p≤cs.length):(stepYG cs a k p dd).2.2.1≤cs.length:=by
 unfold stepYG;split
 ·exact o_ps _ _ _ h
 ·exact h

def stOf (cs:List Bool) (k a:Int):StepT:=fun x p dd=>if k=1 then stepM cs a x p dd else if k=2 then stepG cs a x p dd else stepYG cs a x p dd
def GoodS (k a w:Nat):Prop:=(k=1∧1≤a∧a≤4∨k=2∧a≤1∨k=3∧1≤a∧a≤2)∧1≤w∧w≤4

theorem o_px {k a w:Nat} (h:GoodS k a w):Eqn Tryz.prog o_f5 [.d (parD k a w)] [] (.d (.int .i64 0)) []:=by
 obtain ⟨h,h1,h2⟩:=h
 rcases h with ⟨rfl,h3,h4⟩ | ⟨rfl,h3⟩ | ⟨rfl,h3,h4⟩
 ·refine o_pd a w (by omega) (by omega) h1 (by omega) ?_
  have ha:a=1∨a=2∨a=3∨a=4:=by omega
  have hw:w=1∨w=2∨w=3∨w=4:=by omega
  rcases ha with rfl | rfl | rfl | rfl<;>rcases hw with rfl | rfl | rfl | rfl<;>decide
 ·exact o_pf a w (by omega) h1 (by omega)
 ·exact o_pg a w (by omega) (by omega) h1 (by omega)

theorem o_py (k m:Int) (hm:0<m):-m<k.tmod m∧k.tmod m<m:=by
 refine ⟨?_,Int.tmod_lt_of_pos _ hm⟩
 rcases (by omega:k<0∨0≤k) with h | h
 ·have:=Int.tmod_lt_of_pos (-k) hm
  rw [Int.neg_tmod] at this
  omega
 ·have:=Int.tmod_nonneg m h
  omega
theorem o_pz (k m:Int) (hm:0<m) (hm2:m≤4611686018427387904):IntKind.i64.wrap (k.tmod m+m)=k.tmod m+m∧∃r:Nat,(k.tmod m+m).tmod m=r∧r<m∧IntKind.i64.wrap (1+(r:Int))=((1+r:Nat):Int):=by
 have h:=o_py k m hm
 have h0:0≤k.tmod m+m:=by omega
 refine ⟨w64 (by omega) (by omega),?_⟩
 have h1:=Int.tmod_nonneg m h0
 have h2:=Int.tmod_lt_of_pos (k.tmod m+m) hm
 obtain ⟨r,hr⟩:∃r:Nat,(k.tmod m+m).tmod m=r:=⟨((k.tmod m+m).tmod m).toNat,by omega⟩
 exact ⟨r,hr,by omega,by rw [w64 (by omega) (by omega)];omega⟩
theorem o_q0 (k:Int) (m:Nat) (hm:m≤4611686018427387904):∃n:Nat,bits BinOp.and IntKind.i64 k (m:Int)=n∧n≤m∧IntKind.i64.wrap (1+(n:Int))=((1+n:Nat):Int):=by
 refine ⟨(BitVec.ofInt 64 k).toNat &&& m,?_,Nat.and_le_right,?_⟩
 ·have hm':m%2^64=m:=Nat.mod_eq_of_lt (by omega)
  have hle:(BitVec.ofInt 64 k).toNat &&& m≤m:=Nat.and_le_right
  show IntKind.i64.wrap (((BitVec.ofInt 64 k) &&& (BitVec.ofInt 64 (m:Int))).toNat:Int)=_
  rw [BitVec.toNat_and,BitVec.ofInt_natCast,BitVec.toNat_ofNat,hm']
  generalize (BitVec.ofInt 64 k).toNat &&& m=n at *
  exact w64 (by omega) (by omega)
 ·have hle:(BitVec.ofInt 64 k).toNat &&& m≤m:=Nat.and_le_right
  generalize (BitVec.ofInt 64 k).toNat &&& m=n at *
  rw [w64 (by omega) (by omega)];omega
end
section
open Go.RowKit
abbrev AgT:=Nat→Nat→Nat→Bool→Bool×Int×Nat×Bool
def agOf (cs:List Bool) (k a:Nat):AgT:=fun x r p dd=>if k=1 then powerR cs a (a+1) (x-r) p dd else if k=2 then halfR cs (x/2^a-r/2^a) p dd else halfR cs ((placeY a x).shift-(placeY a r).shift) p dd

theorem all2 {d k r:Nat} (hd:1≤d∧d≤4096) (hk:k≤1023) (hr:r≤1023):wrongM d [(k:Int),(r:Int)]=0:=by
 unfold wrongM
 rw [if_pos (by omega)]
 simp [okK];omega
theorem o_q1 (cs:List Bool) (a k r p:Nat) (dd:Bool) (h1:1≤a) (h2:a≤4096) (hk:k≤1023) (hr:r≤1023) (hp:p≤cs.length) (hn:cs.length≤4000000) :
  Eqn Tryz.prog o_i5 [.p 0 0,.d (.int .i64 a),.d (.int .i64 k),.d (.int .i64 r)] [tapeO cs p dd] (.tup [.d (.bool (powerR cs a (a+1) (k-r) p dd).1),.d (.int .i64 (powerR cs a (a+1) (k-r) p dd).2.1)]) [tapeO cs (powerR cs a (a+1) (k-r) p dd).2.2.1 (powerR cs a (a+1) (k-r) p dd).2.2.2]:=by
 refine Eqn.obj1 o_i7 (o_lr _ _) ⟨rfl,fun _=>rfl⟩ ?_
 refine cc (c':=?z69) ?_ ?_
 case refine_1=>cbv<;>exact rfl
 have hw:=o_n5 a [(k:Int),(r:Int)] (by simp)
 rw [all2 ⟨h1,h2⟩ hk hr] at hw
 have hh:=o_n9 cs a ((k:Int)-r) p dd h1 h2 (by omega) hp hn
 rw [show ((k:Int)-r).toNat=k-r by omega] at hh
 generalize powerR cs a (a+1) (k-r) p dd=R at *
 obtain ⟨R1,R2,R3,R4⟩:=R
 simp only at hh ⊢
 have ew:IntKind.i64.wrap ((k:Int)-r)=(k:Int)-r:=w64 (by omega) (by omega)
 refine G0B ?_;try with_reducible exact tt
 refine CallS.pf 1 1 ⟨3,_⟩ [.int .i64 k,.int .i64 r] (hw) (by first | rfl | (simp [-Bool.exists_bool];done)) (R0B ?_);try with_reducible exact tt
 refine AW.cond rfl (fun h=>?_) (fun h=>?_)
 ·simp at h
 refine G1B ew ?_;try with_reducible exact tt
 try simp only [ew]
 refine CallS.o1 0 (hh) (R0B ?_);try with_reducible exact tt

theorem all2f {d k r:Nat} (hd:d≤8) (hk:k≤1023) (hr:r≤1023):wrongZ d [(k:Int),(r:Int)]=0:=by
 unfold wrongZ
 rw [if_pos (by omega)]
 simp [okK];omega
theorem o_q2 (cs:List Bool) (d k j p:Nat) (dd:Bool) (h1:d≤8) (hk:k≤1023) (hr:j≤1023) (hp0:p≤cs.length) (hn:cs.length≤4000000) (R:Bool×Int×Nat×Bool) (hR:R=halfR cs (k/2^d-j/2^d) p dd) :
  Eqn Tryz.prog o_je [.p 0 0,.d (.int .i64 d),.d (.int .i64 k),.d (.int .i64 j)] [tapeO cs p dd] (.tup [.d (.bool R.1),.d (.int .i64 R.2.1)]) [tapeO cs R.2.2.1 R.2.2.2]:=by
 refine Eqn.obj1 o_jg (o_lr _ _) ⟨rfl,fun _=>rfl⟩ ?_
 refine cc (c':=?z70) ?_ ?_
 case refine_1=>cbv<;>exact rfl
 have hw:=o_mv d k j
 rw [all2f h1 hk hr] at hw
 have hq:=o_mt d k (by omega) (by omega)
 have hq':=o_mt d j (by omega) (by omega)
 have hu:k/2^d≤k:=Nat.div_le_self _ _
 have hu':j/2^d≤j:=Nat.div_le_self _ _
 generalize k/2^d=u at *
 generalize j/2^d=u' at *
 generalize partV d k=v at hq
 generalize partV d j=v' at hq'
 have ew:IntKind.i64.wrap ((u:Int)-u')=(u:Int)-u':=w64 (by omega) (by omega)
 have hh:=o_mq cs p dd ((u:Int)-u') (by omega) hp0 hn
 rw [show ((u:Int)-u').toNat=u-u' by omega,←hR] at hh
 clear hR
 obtain ⟨r1,r2,r3,r4⟩:=R
 simp only at hh ⊢
 refine G0B ?_;try with_reducible exact tt
 refine CallS.pf 1 1 ⟨3,_⟩ [.int .i64 k,.int .i64 j] (hw) (by first | rfl | (simp [-Bool.exists_bool];done)) (R0B ?_);try with_reducible exact tt
 refine AW.cond rfl (fun h=>?_) (fun h=>?_)
 ·simp at h
 refine G0B ?_;try with_reducible exact tt
 refine CallS.pu (hq) (R0B ?_);try with_reducible exact tt
 refine CallS.pu (hq') (R0B ?_);try with_reducible exact tt
 try simp only [ew]
 refine CallS.o1 0 (hh) (R0B ?_);try with_reducible exact tt

theorem o_q3 (cs:List Bool) (s k j p:Nat) (dd:Bool) (h1:1≤s) (h2:s≤5) (hk:k≤1023) (hr:j≤1023) (hp0:p≤cs.length) (hn:cs.length≤4000000) (R:Bool×Int×Nat×Bool) (hR:R=halfR cs ((placeY s k).shift-(placeY s j).shift) p dd) :
  Eqn Tryz.prog o_k8 [.p 0 0,.d (.int .i64 s),.d (.int .i64 k),.d (.int .i64 j)] [tapeO cs p dd] (.tup [.d (.bool R.1),.d (.int .i64 R.2.1)]) [tapeO cs R.2.2.1 R.2.2.2]:=by
 refine Eqn.obj1 o_ka (o_lr _ _) ⟨rfl,fun _=>rfl⟩ ?_
 refine cc (c':=?z71) ?_ ?_
 case refine_1=>cbv<;>exact rfl
 have ha:=o_p5 s k h1 h2 hk
 have hb:=o_p5 s j h1 h2 hr
 have b1:(placeY s k).shift≤8192:=(o_ox (s:=s) (k:=k) (by omega) (by omega) (by omega)).2.1
 have b2:(placeY s j).shift≤8192:=(o_ox (s:=s) (k:=j) (by omega) (by omega) (by omega)).2.1
 generalize placeY s k=P at *
 generalize placeY s j=q at *
 obtain ⟨px,ps,pv,pr⟩:=P
 obtain ⟨qx,qs,qv,qr⟩:=q
 simp only [plD] at ha hb b1 b2 hR
 have ew:IntKind.i64.wrap ((ps:Int)-qs)=(ps:Int)-qs:=w64 (by omega) (by omega)
 have hh:=o_mq cs p dd ((ps:Int)-qs) (by omega) hp0 hn
 rw [show ((ps:Int)-qs).toNat=ps-qs by omega,←hR] at hh
 clear hR
 obtain ⟨r1,r2,r3,r4⟩:=R
 simp only at hh ⊢
 refine G0B ?_;try with_reducible exact tt
 refine CallS.pu (ha) (R0B ?_);try with_reducible exact tt
 refine AW.cond rfl (fun h=>?_) (fun h=>?_)
 ·simp at h
 refine G0B ?_;try with_reducible exact tt
 refine CallS.pu (hb) (R0B ?_);try with_reducible exact tt
 refine AW.cond rfl (fun h=>?_) (fun h=>?_)
 ·simp at h
 refine G1B ew ?_;try with_reducible exact tt
 try simp only [ew]
 refine CallS.o1 0 (hh) (R0B ?_);try with_reducible exact tt

structure AgainOf (cs:List Bool) (ti:TypeId) (d:D) (g:FuncId) (ag:AgT):Prop where
 meth : MethOK Tryz.prog ti "tallymark/chain.again" g
 run:∀(x r p:Nat) (dd:Bool),x≤1023→r≤1023→p≤cs.length→Eqn Tryz.prog g [.d d,.p 0 0,.d (.int .i64 x),.d (.int .i64 r)] [tapeO cs p dd] (.tup [.d (.bool (ag x r p dd).1),.d (.int .i64 (ag x r p dd).2.1)]) [tapeO cs (ag x r p dd).2.2.1 (ag x r p dd).2.2.2]
 le:∀(x r p:Nat) (dd:Bool),p≤cs.length→(ag x r p dd).2.2.1≤cs.length

theorem o_q4 : MethOK Tryz.prog 150 "tallymark/chain.again" o_ht := fun v w => by kernel_rfl
theorem o_q5 : MethOK Tryz.prog 151 "tallymark/chain.again" o_j2 := fun v w => by kernel_rfl
theorem o_q6 : MethOK Tryz.prog 152 "tallymark/chain.again" o_jw := fun v w => by kernel_rfl

theorem o_q7 (cs:List Bool) (a k r p:Nat) (dd:Bool) (R:Bool×Int×Nat×Bool) (hh:Eqn Tryz.prog o_i5 [.p 0 0,.d (.int .i64 a),.d (.int .i64 k),.d (.int .i64 r)] [tapeO cs p dd] (.tup [.d (.bool R.1),.d (.int .i64 R.2.1)]) [tapeO cs R.2.2.1 R.2.2.2]) :
  Eqn Tryz.prog o_ht [.d (.int .i64 a),.p 0 0,.d (.int .i64 k),.d (.int .i64 r)] [tapeO cs p dd] (.tup [.d (.bool R.1),.d (.int .i64 R.2.1)]) [tapeO cs R.2.2.1 R.2.2.2]:=by
 refine Eqn.obj1 o_hv (o_lr _ _) ⟨rfl,fun _=>rfl⟩ ?_
 refine cc (c':=?z72) ?_ ?_
 case refine_1=>cbv<;>exact rfl
 obtain ⟨R1,R2,R3,R4⟩:=R
 simp only at hh ⊢
 refine G0B ?_;try with_reducible exact tt
 refine CallS.o1 0 (hh) (R0B ?_);try with_reducible exact tt
theorem o_q8 (cs:List Bool) (a k r p:Nat) (dd:Bool) (R:Bool×Int×Nat×Bool) (hh:Eqn Tryz.prog o_je [.p 0 0,.d (.int .i64 a),.d (.int .i64 k),.d (.int .i64 r)] [tapeO cs p dd] (.tup [.d (.bool R.1),.d (.int .i64 R.2.1)]) [tapeO cs R.2.2.1 R.2.2.2]) :
  Eqn Tryz.prog o_j2 [.d (.int .i64 a),.p 0 0,.d (.int .i64 k),.d (.int .i64 r)] [tapeO cs p dd] (.tup [.d (.bool R.1),.d (.int .i64 R.2.1)]) [tapeO cs R.2.2.1 R.2.2.2]:=by
 refine Eqn.obj1 o_j4 (o_lr _ _) ⟨rfl,fun _=>rfl⟩ ?_
 refine cc (c':=?z73) ?_ ?_
 case refine_1=>cbv<;>exact rfl
 obtain ⟨R1,R2,R3,R4⟩:=R
 simp only at hh ⊢
 refine G0B ?_;try with_reducible exact tt
 refine CallS.o1 0 (hh) (R0B ?_);try with_reducible exact tt
theorem o_q9 (cs:List Bool) (a k r p:Nat) (dd:Bool) (R:Bool×Int×Nat×Bool) (hh:Eqn Tryz.prog o_k8 [.p 0 0,.d (.int .i64 a),.d (.int .i64 k),.d (.int .i64 r)] [tapeO cs p dd] (.tup [.d (.bool R.1),.d (.int .i64 R.2.1)]) [tapeO cs R.2.2.1 R.2.2.2]) :
  Eqn Tryz.prog o_jw [.d (.int .i64 a),.p 0 0,.d (.int .i64 k),.d (.int .i64 r)] [tapeO cs p dd] (.tup [.d (.bool R.1),.d (.int .i64 R.2.1)]) [tapeO cs R.2.2.1 R.2.2.2]:=by
 refine Eqn.obj1 o_jy (o_lr _ _) ⟨rfl,fun _=>rfl⟩ ?_
 refine cc (c':=?z74) ?_ ?_
 case refine_1=>cbv<;>exact rfl
 obtain ⟨R1,R2,R3,R4⟩:=R
 simp only at hh ⊢
 refine G0B ?_;try with_reducible exact tt
 refine CallS.o1 0 (hh) (R0B ?_);try with_reducible exact tt
end
section
open Go.RowKit
theorem o_qa {T1 t2 T3 ti : TypeId} (h1 : T1 < 1000000) (h2 : t2 < 1000000) (h3 : T3 < 1000000) {d : D} {g : FuncId} {cs : List Bool} {k r : Int} {p : Nat} {dd r1 : Bool} {r2 : Int} {r3 : Nat} {r4 : Bool} (hm : MethOK Tryz.prog ti "tallymark/chain.again" g)
  (E:Eqn Tryz.prog g [.d d,.p 0 0,.d (.int .i64 k),.d (.int .i64 r)] [tapeO cs p dd] (.tup [.d (.bool r1),.d (.int .i64 r2)]) [tapeO cs r3 r4]) :
  Eqn Tryz.prog o_cs [.d (.int .i64 k),.p 1 0,.p 2 0,.p 3 0] [tapeO cs p dd,⟨T1,[.d (.ifc ti d)]⟩,⟨t2,[.p 0 0]⟩,⟨T3,[.d (.int .i64 r)]⟩] (.tup [.d (.bool r1),.d (.int .i64 r2)]) [tapeO cs r3 r4,⟨T1,[.d (.ifc ti d)]⟩,⟨t2,[.p 0 0]⟩,⟨T3,[.d (.int .i64 r)]⟩]:=by
 refine Eqn.gen [0,1,2,3] o_cu (by simp) (by simp) (by rfl) (by decide) (by simp) (by simp) ?_
 refine cc (c':=?z75) ?_ ?_
 case refine_1=>cbv<;>exact rfl
 refine G1B (fs h1 (fs h2 h3)) ?_;try with_reducible exact tt
 refine ⟨_,hm,?_⟩
 refine CallS.o1 0 (E) (R1B (fs h1 (fs h2 h3)) ?_);try with_reducible exact tt

theorem o_qb {T1 t2 T3 ti:TypeId} (h1:T1<1000000) (h2:t2<1000000) (h3:T3<1000000) {d:D} {cs:List Bool} {p:Nat} {dd:Bool} (k a r:Int) (w:Nat) (w2:w≤10) (full:Bool) (hc:Eqn Tryz.prog o_f5 [.d (parD k a w)] [] (.d (.int .i64 0)) []) :
  Eqn Tryz.prog o_cd [.d (parD k a w),.d (.agg [.int .i64 (2^w-1:Nat),.bool full]),.fn (.func o_cs) [.p 1 0,.p 2 0,.p 3 0]] [tapeO cs p dd,⟨T1,[.d (.ifc ti d)]⟩,⟨t2,[.p 0 0]⟩,⟨T3,[.d (.int .i64 r)]⟩] (.tup [.d (.agg [.int .i64 (2^w-1:Nat),.bool true]),.d (.int .i64 0)]) [tapeO cs p dd,⟨T1,[.d (.ifc ti d)]⟩,⟨t2,[.p 0 0]⟩,⟨T3,[.d (.int .i64 r)]⟩]:=by
 refine Eqn.gen [0,1,2,3] o_cf (by simp) (by simp) (by rfl) (by decide) (by simp) (by simp) ?_
 have ht:=o_ph k a w w2 hc
 refine cc (c':=?z76) ?_ ?_
 case refine_1=>cbv<;>exact rfl
 try simp only [parD] at ht ⊢
 generalize 2^w-1=S at *
 refine G1B (fs h1 (fs h2 h3)) ?_;try with_reducible exact tt
 refine CallS.pu (ht) (R1B (fs h1 (fs h2 h3)) ?_);try with_reducible exact tt
 refine AW.cond rfl (fun h=>?_) (fun h=>?_)
 ·clear h
  refine G1B (fs h1 (fs h2 h3)) ?_;try with_reducible exact tt
 ·simp at h

theorem o_qc {T1 t2 T3 ti:TypeId} (h1:T1<1000000) (h2:t2<1000000) (h3:T3<1000000) {d:D} {g:FuncId} {cs:List Bool} {x p:Nat} {dd r1:Bool} {r2:Int} {r3:Nat} {r4:Bool} (k a r:Int) (w:Nat) (w2:w≤10) (full:Bool) (hx:x<2^w-1) (hc:Eqn Tryz.prog o_f5 [.d (parD k a w)] [] (.d (.int .i64 0)) [])
  (hm : MethOK Tryz.prog ti "tallymark/chain.again" g) (E : Eqn Tryz.prog g [.d d, .p 0 0, .d (.int .i64 x), .d (.int .i64 r)] [tapeO cs p dd] (.tup [.d (.bool r1), .d (.int .i64 r2)]) [tapeO cs r3 r4]) :
  Eqn Tryz.prog o_cd [.d (parD k a w),.d (.agg [.int .i64 x,.bool full]),.fn (.func o_cs) [.p 1 0,.p 2 0,.p 3 0]] [tapeO cs p dd,⟨T1,[.d (.ifc ti d)]⟩,⟨t2,[.p 0 0]⟩,⟨T3,[.d (.int .i64 r)]⟩] (.tup [.d (.agg [.int .i64 (if r1 then x+1 else x:Nat),.bool full]),.d (.int .i64 r2)]) [tapeO cs r3 r4,⟨T1,[.d (.ifc ti d)]⟩,⟨t2,[.p 0 0]⟩,⟨T3,[.d (.int .i64 r)]⟩]:=by
 refine Eqn.gen [0,1,2,3] o_cf (by simp) (by simp) (by rfl) (by decide) (by simp) (by simp) ?_
 have ht:=o_ph k a w w2 hc
 have h5:2^w-1≤1023:=by have:=Nat.pow_le_pow_right (n:=2) (by omega) w2;omega
 refine cc (c':=?z77) ?_ ?_
 case refine_1=>cbv<;>exact rfl
 try simp only [parD] at ht ⊢
 generalize 2^w-1=S at *
 have g1:¬x=S:=by omega
 have g2:¬(x:Int)=S:=by omega
 have ew:IntKind.i64.wrap ((x:Int)+1)=(x:Int)+1:=w64 (by omega) (by omega)
 have ha:=o_qa (T1:=T1) (t2:=t2) (T3:=T3) h1 h2 h3 hm E
 refine G1B (fs h1 (fs h2 h3)) ?_;try with_reducible exact tt
 refine CallS.pu (ht) (R1B (fs h1 (fs h2 h3)) ?_);try with_reducible exact tt
 refine AW.cond rfl (fun h=>?_) (fun h=>?_)
 ·simp [g1,g2] at h
 clear h
 refine G1B (fs h1 (fs h2 h3)) ?_;try with_reducible exact tt
 refine CallS.g [0,1,2,3] (ha) (R1B (fs h1 (fs h2 h3)) ?_);try with_reducible exact tt
 cases r1 with
 | true =>
  refine AW.cond rfl (fun h=>?_) (fun h=>?_)
  ·refine G1B (fs ew (fs h1 (fs h2 h3))) ?_;try with_reducible exact tt
  ·simp at h
 | false =>
  refine AW.cond rfl (fun h=>?_) (fun h=>?_)
  ·simp at h
  ·refine G1B (fs ew (fs h1 (fs h2 h3))) ?_;try with_reducible exact tt

def mergeL (ag:AgT) (top:Nat):Nat→Nat→Nat→Bool→Nat→Bool→Int×Nat×Bool×Nat×Bool
 | 0,_,x,f,p,d=>(0,x,f,p,d)
 | n+1,r,x,f,p,d =>
  if x=top then mergeL ag top n (r+1) x true p d
  else if (ag x r p d).2.1=0 then mergeL ag top n (r+1) (if (ag x r p d).1 then x+1 else x) f (ag x r p d).2.2.1 (ag x r p d).2.2.2
  else ((ag x r p d).2.1,x,f,(ag x r p d).2.2.1,(ag x r p d).2.2.2)

theorem o_qd (k a:Int) (w:Nat) (w2:w≤10) (x y:Int) (h0:0≤x) (h1:x≤(2^w-1:Nat)) (h2:0≤y) (h3:y≤(2^w-1:Nat)) (hc:Eqn Tryz.prog o_f5 [.d (parD k a w)] [] (.d (.int .i64 0)) []):Eqn Tryz.prog o_c7 [.d (parD k a w),.d (.sl 2 [.int .i64 x,.int .i64 y])] [] (.d (.int .i64 0)) []:=by
 refine Eqn.pure o_c9 (o_5e _) ?_
 have ht:=o_ph k a w w2 hc
 refine cc (c':=?z78) ?_ ?_
 case refine_1=>cbv<;>exact rfl
 try simp only [parD] at hc ht ⊢
 generalize 2^w-1=S at *
 refine G0 ?_;try with_reducible exact tt
 refine CallS.pu (hc) (R0 ?_);try with_reducible exact tt
 refine AW.cond rfl (fun h=>?_) (fun h=>?_)
 ·simp at h
 refine G0 ?_;try with_reducible exact tt
 refine AW.loopT (α:=Nat) 1 (fun i=>[(15,.d (.int .i64 (i:Int)))]) (fun i=>[]) (fun i=>i≤2) (fun i=>2-i) 0 ?_ ?_ (Nat.zero_le _) ?_ ?_ ?_
 ·simp
 ·simp
 ·simp
 ·simp
 rintro i hi
 simp
 have g1:¬x<0:=by omega
 have g2:¬(S:Int)<x:=by omega
 have g3:¬y<0:=by omega
 have g4:¬(S:Int)<y:=by omega
 by_cases h:i=2
 ·subst h
  refine G0 ?_;try with_reducible exact tt
  refine AW.cond rfl (fun h=>?_) (fun h=>?_)
  ·simp at h
  refine AW.exit ?_
  (try (simp -implicitDefEqProofs;try simp (disch:=omega) only [w64,wu64]))
  refine G0 ?_;try with_reducible exact tt
 ·have hi':i=0∨i=1:=by omega
  rcases hi' with rfl | rfl
  ·refine G0 ?_;try with_reducible exact tt
   refine AW.cond rfl (fun h=>?_) (fun h=>?_)
   ·refine G1 (fs g1 g2) ?_;try with_reducible exact tt
    refine CallS.pu (ht) (R1 (fs g1 g2) ?_);try with_reducible exact tt
    refine AW.cond rfl (fun h=>?_) (fun h=>?_)
    ·simp [g1,g2] at h
    have ew:IntKind.i64.wrap 1=1:=w64 (by omega) (by omega)
    refine G1 ew ?_;try with_reducible exact tt
    exact ⟨1,by omega,by omega,by simp⟩
   ·simp at h
  ·refine G0 ?_;try with_reducible exact tt
   refine AW.cond rfl (fun h=>?_) (fun h=>?_)
   ·refine G1 (fs g3 g4) ?_;try with_reducible exact tt
    refine CallS.pu (ht) (R1 (fs g3 g4) ?_);try with_reducible exact tt
    refine AW.cond rfl (fun h=>?_) (fun h=>?_)
    ·simp [g3,g4] at h
    have ew:IntKind.i64.wrap 2=2:=w64 (by omega) (by omega)
    refine G1 ew ?_;try with_reducible exact tt
    exact ⟨2,by omega,by omega,by simp⟩
   ·simp at h

theorem o_qe (cs:List Bool) (k a:Int) (w:Nat) (w2:w≤10) (ti:TypeId) (d:D) (g:FuncId) (ag:AgT) (hst:AgainOf cs ti d g ag) (hk:kindD k a = .ifc ti d) (hc:Eqn Tryz.prog o_f5 [.d (parD k a w)] [] (.d (.int .i64 0)) [])
  (x:Nat) (hx:x≤2^w-1) (f:Bool) (n:Nat) (hn:n≤2^w-1) (fo:Bool) (p:Nat) (dd:Bool) (hp:p≤cs.length) (S:Int×Nat×Bool×Nat×Bool) (hS:S=mergeL ag (2^w-1) n 0 x f p dd) :
  Eqn Tryz.prog o_9y [.d (parD k a w),.p 0 0,.d (.agg [.int .i64 x,.bool f]),.d (.agg [.int .i64 n,.bool fo])] [tapeO cs p dd] (.tup [.d (.agg [.int .i64 (if S.1=0 then S.2.1 else x:Nat),.bool (if S.1=0 then S.2.2.1 || fo else f)]),.d (.int .i64 S.1)]) [tapeO cs S.2.2.2.1 S.2.2.2.2]:=by
 refine Eqn.obj1 o_a0 (o_lr _ _) ⟨rfl,fun _=>rfl⟩ ?_
 have hat:=o_qd k a w w2 x n (by omega) (by omega) (by omega) (by omega) hc
 have hkd:=o_nj k a w
 rw [hk] at hkd
 refine cc (c':=?z79) ?_ ?_
 case refine_1=>cbv<;>exact rfl
 try simp only [parD] at hat ⊢
 have hmx:∀(T1 t2 T3:TypeId) (h1:T1<1000000) (h2:t2<1000000) (h3:T3<1000000) (i z q:Nat) (b y:Bool),z<2^w-1→i≤1023→q≤cs.length→_:=fun T1 t2 T3 h1 h2 h3 i z q b y hz hi hq=>o_qc (T1:=T1) (t2:=t2) (T3:=T3) h1 h2 h3 k a i w w2 y hz hc hst.meth (hst.run z i q b (by have:=Nat.pow_le_pow_right (n:=2) (by omega) w2;omega) hi hq)
 have hmt:=fun (T1 t2 T3:TypeId) (h1:T1<1000000) (h2:t2<1000000) (h3:T3<1000000) (i q:Nat) (b y:Bool)=>o_qb (T1:=T1) (t2:=t2) (T3:=T3) h1 h2 h3 (ti:=ti) (d:=d) (cs:=cs) (p:=q) (dd:=b) k a i w w2 y hc
 have hle:=hst.le
 have h2:2^w-1≤1023:=by have:=Nat.pow_le_pow_right (n:=2) (by omega) w2;omega
 simp only [parD] at hmx hmt
 generalize 2^w-1=W at *
 refine G0B ?_;try with_reducible exact tt
 refine CallS.pf 6 1 ⟨3,_⟩ [.int .i64 x,.int .i64 n] (hat) (by first | rfl | (simp [-Bool.exists_bool];done)) (R0B ?_);try with_reducible exact tt
 refine AW.cond rfl (fun h=>?_) (fun h=>?_)
 ·simp at h
 clear h
 refine G0B ?_;try with_reducible exact tt
 refine CallS.pu (hkd) (R0B ?_);try with_reducible exact tt
 refine AW.loopT (α:=Nat×Nat×Bool×Nat×Bool) 9 (fun s=>[(31,.d (.int .i64 (s.1:Int)))]) (fun s=>[(0,tapeO cs s.2.2.2.1 s.2.2.2.2),(8,⟨75,[.d (.int .i64 (s.2.1:Nat)),.d (.bool s.2.2.1)]⟩)]) (fun s=>s.1≤n∧s.2.1≤W∧s.2.2.2.1≤cs.length∧S=mergeL ag W (n-s.1) s.1 s.2.1 s.2.2.1 s.2.2.2.1 s.2.2.2.2) (fun s=>n-s.1) (0,x,f,p,dd) ?_ ?_ ⟨Nat.zero_le _,hx,hp,hS⟩ ?_ ?_ ?_
 ·simp
 ·simp
 ·simp
 ·simp
 rintro ⟨i,z,y,q,b⟩ ⟨hi,hz,hq,hS⟩
 simp only at hi hz hq hS
 simp [-Bool.exists_bool]
 by_cases h:i=n
 ·subst h
  rw [Nat.sub_self,mergeL] at hS
  refine G0B ?_;try with_reducible exact tt
  refine AW.cond rfl (fun h=>?_) (fun h=>?_)
  ·simp at h
  refine AW.exit ?_
  (try (simp -implicitDefEqProofs [-Bool.exists_bool];try simp (disch:=omega) only [w64,wu64]))
  cases y with
  | true =>
   refine G0B ?_;try with_reducible exact tt
   simp [hS]
  | false =>
   refine G0B ?_;try with_reducible exact tt
   simp [hS]
 ·have hlt:(i:Int)<n:=by omega
  have hlt':i<n:=by omega
  obtain ⟨r,hr⟩:∃r,n-i=r+1:=⟨n-i-1,by omega⟩
  have ew:IntKind.i64.wrap ((i:Int)+1)=(i:Int)+1:=w64 (by omega) (by omega)
  rw [hr,mergeL] at hS
  refine G1B (fs hlt hlt') ?_;try with_reducible exact tt
  refine AW.cond rfl (fun h=>?_) (fun h=>?_)
  ·clear h
   by_cases hzt:z=W
   ·subst hzt
    rw [if_pos rfl] at hS
    have hmt:=fun T1 t2 T3 h1 h2 h3=>hmt T1 t2 T3 h1 h2 h3 i q b y
    refine G0B ?_;try with_reducible exact tt
    refine CallS.g [0,7,2,9] (hmt 116 34 3 (by decide) (by decide) (by decide)) (R0B ?_);try with_reducible exact tt
    refine AW.cond rfl (fun h=>?_) (fun h=>?_)
    ·simp at h
    refine G1B ew ?_;try with_reducible exact tt
    exact ⟨i+1,z,true,q,b,⟨by omega,hz,hq,by rw [hS];congr 1;omega⟩,by omega,by simp⟩
   ·rw [if_neg hzt] at hS
    have hmx:=fun T1 t2 T3 h1 h2 h3=>hmx T1 t2 T3 h1 h2 h3 i z q b y (by omega) (by omega) hq
    have hle:=hle z i q b hq
    generalize ag z i q b=R at *
    obtain ⟨r1,r2,r3,r4⟩:=R
    simp only at hS hmx hle
    have hz':(if r1=true then z+1 else z)≤W:=by split<;>omega
    generalize (if r1=true then z+1 else z)=z' at *
    refine G0B ?_;try with_reducible exact tt
    refine CallS.g [0,7,2,9] (hmx 116 34 3 (by decide) (by decide) (by decide)) (R0B ?_);try with_reducible exact tt
    by_cases hr2:r2=0
    ·subst hr2
     rw [if_pos rfl] at hS
     refine AW.cond rfl (fun h=>?_) (fun h=>?_)
     ·simp at h
     refine G1B ew ?_;try with_reducible exact tt
     exact ⟨i+1,z',y,r3,r4,⟨by omega,hz',hle,by rw [hS];congr 1;omega⟩,by omega,by simp⟩
    ·rw [if_neg hr2] at hS
     refine AW.cond rfl (fun h=>?_) (fun h=>?_)
     ·refine G0B ?_;try with_reducible exact tt
      simp [hS,hr2]
     ·simp [hr2] at h
  ·simp [hlt'] at h
end
section
open Go.RowKit
end
section
open Go.RowKit
end
section
open Go.RowKit
structure Live (p:Nat) (R:Bool×Int×Nat×Bool):Prop where
 err:R.2.1=0∨R.2.1=8
 dead:R.2.2.2=true↔R.2.1≠0
 no:R.2.1≠0→R.1=false
 le:p≤R.2.2.1

theorem Live.mono {p q:Nat} {R:Bool×Int×Nat×Bool} (h:Live q R) (hq:p≤q):Live p R:=⟨h.err,h.dead,h.no,Nat.le_trans hq h.le⟩
theorem Live.ok {p:Nat} {R:Bool×Int×Nat×Bool} (h:Live p R) (h1:R.2.1=0):R.2.2.2=false:=by
 cases hd:R.2.2.2 with
 | false=>rfl
 | true=>exact absurd h1 (h.dead.1 hd)
end
section
open Go.RowKit
theorem o_qf : MethOK Tryz.prog 151 "tallymark/chain.chance" o_j5 := fun v w => by kernel_rfl
theorem o_qg : MethOK Tryz.prog 152 "tallymark/chain.chance" o_jz := fun v w => by kernel_rfl

def halfD (e:Nat):D:=.agg [natW 1,.bool false,natW (2^e-1)]
def expOf (k a x:Nat):Nat:=if k=2 then x/2^a else (placeY a x).shift

theorem o_qh (d k:Nat) (hd:d≤8) (hk:k≤1023) (hu:k/2^d<64):Eqn Tryz.prog o_j5 [.d (.int .i64 d),.d (.int .i64 k)] [] (.tup [.d (halfD (k/2^d)),.d (.int .i64 0)]) []:=by
 refine Eqn.pure o_j7 (o_lr _ _) ?_
 have h:=o_p8 d k hd hk hu
 refine cc (c':=?z80) ?_ ?_
 case refine_1=>cbv<;>exact rfl
 try simp only [halfD]
 generalize natW (2^(k/2^d)-1)=Z at *
 refine G0 ?_;try with_reducible exact tt
 refine CallS.pu (h) (R0 ?_);try with_reducible exact tt

theorem o_qi:∀a,a<3→∀x,x<16→(placeY a x).shift<64:=by decide

theorem o_qj (s k:Nat) (h1:1≤s) (h2:s≤5) (hk:k≤1023) (hu:(placeY s k).shift<64):Eqn Tryz.prog o_kb [.d (.int .i64 s),.d (.int .i64 k)] [] (.tup [.d (halfD (placeY s k).shift),.d (.int .i64 0)]) []:=by
 refine Eqn.pure o_kd (o_lr _ _) ?_
 have ha:=o_p5 s k h1 h2 hk
 generalize placeY s k=P at *
 obtain ⟨px,ps,pv,pr⟩:=P
 simp only at hu
 have hh:=o_mk ps hu
 refine cc (c':=?z81) ?_ ?_
 case refine_1=>cbv<;>exact rfl
 try simp only [halfD,plD] at ha ⊢
 generalize natW (2^ps-1)=Z at *
 refine G0 ?_;try with_reducible exact tt
 refine CallS.pu (ha) (R0 ?_);try with_reducible exact tt
 refine AW.cond rfl (fun h=>?_) (fun h=>?_)
 ·simp at h
 refine G0 ?_;try with_reducible exact tt
 refine CallS.pu (hh) (R0 ?_);try with_reducible exact tt

theorem o_qk (s k:Nat) (h1:1≤s) (h2:s≤5) (hk:k≤1023) (hu:(placeY s k).shift<64):Eqn Tryz.prog o_jz [.d (.int .i64 s),.d (.int .i64 k)] [] (.tup [.d (halfD (placeY s k).shift),.d (.int .i64 0)]) []:=by
 refine Eqn.pure o_k1 (o_lr _ _) ?_
 have h:=o_qj s k h1 h2 hk hu
 refine cc (c':=?z82) ?_ ?_
 case refine_1=>cbv<;>exact rfl
 try simp only [halfD] at h ⊢
 generalize natW (2^(placeY s k).shift-1)=Z at *
 refine G0 ?_;try with_reducible exact tt
 refine CallS.pu (h) (R0 ?_);try with_reducible exact tt

theorem o_ql {k a w x:Nat} (h:GoodS k a w) (hk:k≠1) (hx:x≤15):expOf k a x<64:=by
 unfold expOf
 split
 ·have:x/2^a≤x:=Nat.div_le_self _ _
  omega
 ·exact o_qi a (by have:=h.1;omega) x (by omega)

theorem o_qm {k a w x : Nat} (h : GoodS k a w) (hk : k ≠ 1) (hx : x ≤ 15) : ∃ ti d g, MethOK Tryz.prog ti "tallymark/chain.chance" g ∧ kindD k a = .ifc ti d ∧ Eqn Tryz.prog g [.d d, .d (.int .i64 x)] [] (.tup [.d (halfD (expOf k a x)), .d (.int .i64 0)]) [] := by
 have hs:=o_ql h hk hx
 obtain ⟨h,-⟩:=h
 rcases h with ⟨rfl,-⟩ | ⟨rfl,h1⟩ | ⟨rfl,h1,h2⟩
 ·exact absurd rfl hk
 ·exact ⟨_,_,_,o_qf,rfl,o_qh a x (by omega) (by omega) hs⟩
 ·exact ⟨_,_,_,o_qg,rfl,o_qk a x h1 (by omega) (by omega) hs⟩

theorem o_qn {e:Nat} (h:e<64):size (2^e)≤1:=o_md (by have:=Nat.pow_lt_pow_right (a:=2) (by omega) h;omega)
end
section
open Go.RowKit
theorem and32 (x:Nat) (h:x<18446744073709551616):bits BinOp.and IntKind.u64 (x:Int) 4294967295=((x%4294967296:Nat):Int):=by
 have:=bits_and_u64_nat x 4294967295 h (by omega)
 rw [show ((4294967295:Nat):Int)=4294967295 by rfl] at this
 rw [this,show (4294967295:Nat)=2^32-1 by rfl,Nat.and_two_pow_sub_one_eq_mod]

theorem o_qo (x y:Nat) (hx:x<18446744073709551616) (hy:y<18446744073709551616) :
  let x0:=x%4294967296;let x1:=x/4294967296;let y0:=y%4294967296;let y1:=y/4294967296
  let w0:=x0*y0;let t:=x1*y0+w0/4294967296;let w1:=t%4294967296+x0*y1
  w0<18446744073709551616∧x1*y0<18446744073709551616∧t<18446744073709551616∧x0*y1<18446744073709551616∧w1<18446744073709551616∧x1*y1<18446744073709551616 ∧
  x1*y1+t/4294967296<18446744073709551616∧x1*y1+t/4294967296+w1/4294967296<18446744073709551616 ∧
  x*y=(x1*y1+t/4294967296+w1/4294967296)*18446744073709551616+x*y%18446744073709551616:=by
 intro x0 x1 y0 y1 w0 t w1
 have hx0:x0<4294967296:=Nat.mod_lt _ (by decide)
 have hy0:y0<4294967296:=Nat.mod_lt _ (by decide)
 have hx1:x1<4294967296:=by simp only [x1];omega
 have hy1:y1<4294967296:=by simp only [y1];omega
 have ex:x=x1*4294967296+x0:=by simp only [x1,x0];omega
 have ey:y=y1*4294967296+y0:=by simp only [y1,y0];omega
 have b:∀{a c:Nat},a<4294967296→c<4294967296→a*c≤18446744065119617025:=fun {a c} ha hc=>by
  have:=Nat.mul_le_mul (show a≤4294967295 by omega) (show c≤4294967295 by omega)
  omega
 have b00:=b hx0 hy0
 have b10:=b hx1 hy0
 have b01:=b hx0 hy1
 have b11:=b hx1 hy1
 have exy:x*y=x1*y1*18446744073709551616+(x1*y0+x0*y1)*4294967296+x0*y0:=by
  rw [ex,ey]
  simp only [Nat.add_mul,Nat.mul_add]
  have e1:x1*4294967296*(y1*4294967296)=x1*y1*18446744073709551616:=by
   rw [Nat.mul_mul_mul_comm]
  have e2:x1*4294967296*y0=x1*y0*4294967296:=by rw [Nat.mul_right_comm]
  have e3:x0*(y1*4294967296)=x0*y1*4294967296:=by rw [Nat.mul_assoc]
  rw [e1,e2,e3];omega
 have hw0:w0=x0*y0:=rfl
 generalize x*y=xy at exy ⊢
 generalize x0*y0=a00 at *
 have ht:t=x1*y0+w0/4294967296:=rfl
 generalize x1*y0=a10 at *
 have hw1:w1=t%4294967296+x0*y1:=rfl
 generalize x0*y1=a01 at *
 generalize x1*y1=a11 at *
 clear_value w0 t w1
 omega

theorem o_qp (x y:Nat) (hx:x<18446744073709551616) (hy:y<18446744073709551616):Eqn Tryz.prog o_ew [.d (.int .u64 x),.d (.int .u64 y)] [] (.tup [.d (.int .u64 (x*y/18446744073709551616:Nat)),.d (.int .u64 (x*y%18446744073709551616:Nat))]) []:=by
 refine Eqn.pure o_ey (o_lr _ _) ?_
 refine cc (c':=?z84) ?_ ?_
 case refine_1=>cbv<;>exact rfl
 have hp:=o_qo x y hx hy
 simp only at hp
 have a1:=and32 x hx
 have a2:=and32 y hy
 have d1:(x:Int)/4294967296=(x/4294967296:Nat):=rfl
 have d2:(y:Int)/4294967296=(y/4294967296:Nat):=rfl
 have l1:x%4294967296<4294967296:=Nat.mod_lt _ (by decide)
 generalize x%4294967296=x0 at hp a1 l1
 generalize x/4294967296=x1 at hp d1
 generalize y%4294967296=y0 at hp a2
 generalize y/4294967296=y1 at hp d2
 obtain ⟨p1,p2,p3,p4,p5,p6,p7,p8,p9⟩:=hp
 have m1:IntKind.u64.wrap ((x0:Int)*y0)=(x0*y0:Nat):=by rw [←Int.natCast_mul];exact wu64 (by omega) (by omega)
 have m2:IntKind.u64.wrap ((x1:Int)*y0)=(x1*y0:Nat):=by rw [←Int.natCast_mul];exact wu64 (by omega) (by omega)
 have m3:IntKind.u64.wrap ((x0:Int)*y1)=(x0*y1:Nat):=by rw [←Int.natCast_mul];exact wu64 (by omega) (by omega)
 have m4:IntKind.u64.wrap ((x1:Int)*y1)=(x1*y1:Nat):=by rw [←Int.natCast_mul];exact wu64 (by omega) (by omega)
 have m5:IntKind.u64.wrap ((x:Int)*y)=(x*y%18446744073709551616:Nat):=by rw [IntKind.wrap_u64,Int.natCast_emod,Int.natCast_mul];rfl
 have lo:x*y%18446744073709551616<18446744073709551616:=Nat.mod_lt _ (by decide)
 generalize x*y%18446744073709551616=low at *
 generalize x*y=xy at *
 generalize x0*y0=a00 at *
 generalize x1*y0=a10 at *
 generalize x0*y1=a01 at *
 generalize x1*y1=a11 at *
 have q1:(a00:Int)/4294967296=(a00/4294967296:Nat):=rfl
 generalize a00/4294967296=b0 at *
 have s1:IntKind.u64.wrap ((a10:Int)+b0)=(a10+b0:Nat):=wu64 (by omega) (by omega)
 have a3:=and32 (a10+b0) p3
 have q2:((a10+b0:Nat):Int)/4294967296=((a10+b0)/4294967296:Nat):=rfl
 generalize (a10+b0)/4294967296=t1 at *
 generalize (a10+b0)%4294967296=t0 at *
 generalize a10+b0=t at *
 have s2:IntKind.u64.wrap ((t0:Int)+a01)=(t0+a01:Nat):=wu64 (by omega) (by omega)
 have q3:((t0+a01:Nat):Int)/4294967296=((t0+a01)/4294967296:Nat):=rfl
 generalize (t0+a01)/4294967296=v1 at *
 generalize t0+a01=v at *
 have s3:IntKind.u64.wrap ((a11:Int)+t1)=(a11+t1:Nat):=wu64 (by omega) (by omega)
 have s4:IntKind.u64.wrap (((a11+t1:Nat):Int)+v1)=(a11+t1+v1:Nat):=wu64 (by omega) (by omega)
 have fin:xy/18446744073709551616=a11+t1+v1:=by omega
 rw [fin]
 generalize a11+t1+v1=hi at *
 generalize a11+t1=r at *
 refine G1 (fs a1 (fs a2 (fs d1 (fs d2 (fs m1 (fs m2 (fs m3 (fs m4 (fs m5 (fs q1 (fs s1 (fs a3 (fs q2 (fs s2 (fs q3 (fs s3 s4)))))))))))))))) ?_;try with_reducible exact tt
end
section
open Go.RowKit
theorem o_qq (hi lo y:Nat) (h0:hi<y) (hl:lo<18446744073709551616) (hy:y<18446744073709551616) :
  ∃s Y u v:Nat,s=64-bitsN y∧s≤63∧y*2^s=Y∧Y<18446744073709551616∧9223372036854775808≤Y∧hi*2^s<18446744073709551616∧hi*2^s ||| lo/2^(64-s)=u∧lo*2^s%18446744073709551616=v∧u<Y∧v<18446744073709551616 ∧
   (hi*18446744073709551616+lo)*2^s=u*18446744073709551616+v:=by
 obtain ⟨b1,b2⟩:=o_nn (n:=y) (by omega)
 have b3:=o_nk y
 have b4:bitsN y≤64:=o_nl (by omega)
 have hs:64-bitsN y≤63:=by omega
 have hY1:y*2^(64-bitsN y)<18446744073709551616:=by
  have:2^bitsN y*2^(64-bitsN y)=18446744073709551616:=by rw [←Nat.pow_add,show bitsN y+(64-bitsN y)=64 by omega]
  rw [←this]
  exact Nat.mul_lt_mul_of_pos_right b3 (Nat.two_pow_pos _)
 have hY2:9223372036854775808≤y*2^(64-bitsN y):=by
  have:2^(bitsN y-1)*2^(64-bitsN y)=9223372036854775808:=by rw [←Nat.pow_add,show bitsN y-1+(64-bitsN y)=63 by omega]
  rw [←this]
  exact Nat.mul_le_mul_right _ b1
 generalize 64-bitsN y=s at *
 have hB:(18446744073709551616:Nat)=2^s*2^(64-s):=by rw [←Nat.pow_add,show s+(64-s)=64 by omega]
 have hp:=Nat.two_pow_pos s
 have hp':=Nat.two_pow_pos (64-s)
 have hh:hi*2^s<y*2^s:=Nat.mul_lt_mul_of_pos_right h0 hp
 have hlq:lo/2^(64-s)<2^s:=by rw [Nat.div_lt_iff_lt_mul hp',←hB];exact hl
 have hor:hi*2^s ||| lo/2^(64-s)=hi*2^s+lo/2^(64-s):=by
  rw [Nat.mul_comm,←Nat.two_pow_add_eq_or_of_lt hlq]
 have hlo:lo*2^s=lo/2^(64-s)*18446744073709551616+lo*2^s%18446744073709551616:=by
  have h1:lo*2^s/18446744073709551616=lo/2^(64-s):=by
   conv=>lhs;rw [hB]
   rw [Nat.mul_comm lo,Nat.mul_div_mul_left _ _ hp]
  have h2:=Nat.div_add_mod (lo*2^s) 18446744073709551616
  rw [h1] at h2
  omega
 have hlm:lo*2^s%18446744073709551616<18446744073709551616:=Nat.mod_lt _ (by decide)
 have hN:(hi*18446744073709551616+lo)*2^s=(hi*2^s)*18446744073709551616+lo*2^s:=by
  rw [Nat.add_mul,Nat.mul_right_comm]
 refine ⟨s,y*2^s,hi*2^s+lo/2^(64-s),lo*2^s%18446744073709551616,rfl,hs,rfl,hY1,hY2,by omega,hor,rfl,?_,hlm,?_⟩
 ·have h1:(hi+1)*2^s≤y*2^s:=Nat.mul_le_mul_right _ h0
  rw [Nat.add_mul,Nat.one_mul] at h1
  omega
 ·rw [hN,hlo,Nat.add_mul]
  generalize lo*2^s%18446744073709551616=a at *
  generalize lo/2^(64-s)=b at *
  generalize hi*2^s=c at *
  omega

def hInv (Y1 Y0 u v:Nat) (q r:Nat):Prop:=q*Y1+r=u∧u*4294967296+v<(q+1)*(Y1*4294967296+Y0)∧r<4294967296

theorem o_qr {Y1 Y0 u v:Nat} (h1:0<Y1) (h2:Y1<4294967296) (hv:v<4294967296):hInv Y1 Y0 u v (u/Y1) (u%Y1):=by
 refine ⟨?_,o_nt h1 hv,?_⟩
 ·rw [Nat.mul_comm];exact Nat.div_add_mod u Y1
 ·have:=Nat.mod_lt u h1;omega

set_option maxHeartbeats 8000000 in
theorem o_qs (hi lo y:Nat) (h0:hi<y) (hl:lo<18446744073709551616) (hy:y<18446744073709551616):Eqn Tryz.prog o_h8 [.d (.int .u64 hi),.d (.int .u64 lo),.d (.int .u64 y)] [] (.tup [.d (.int .u64 ((hi*18446744073709551616+lo)/y:Nat)),.d (.int .u64 ((hi*18446744073709551616+lo)%y:Nat))]) []:=by
 rcases Nat.eq_zero_or_pos hi with rfl | hpos
 ·rw [Nat.zero_mul,Nat.zero_add]
  exact o_m9 lo y hl (by omega)
 refine Eqn.pure o_ha (o_lr _ _) ?_
 refine cc (c':=?z85) ?_ ?_
 case refine_1=>cbv<;>exact rfl
 obtain ⟨s,Y,u,v,hs,hs63,hY,hYl,hYg,hhs,hor,hv,hu,hvl,hN⟩:=o_qq hi lo y h0 hl hy
 have hq:(hi*18446744073709551616+lo)/y=(u*18446744073709551616+v)/Y:=by rw [←hN,←hY];exact o_nu.1.symm
 have hr:(hi*18446744073709551616+lo)%y=(u*18446744073709551616+v)%Y/2^s:=by rw [←hN,←hY];exact o_nu.2.symm
 rw [hq,hr]
 clear hq hr hN
 obtain ⟨Qf,hQf⟩:∃Qf,Qf=(u*18446744073709551616+v)/Y:=⟨_,rfl⟩
 obtain ⟨Rf,hRf⟩:∃Rf,Rf=(u*18446744073709551616+v)%Y/2^s:=⟨_,rfl⟩
 rw [←hQf,←hRf]
 have h1:¬y=0:=by omega
 have h2:¬(y:Int)≤hi:=by omega
 have h3:¬hi=0:=by omega
 have h1':¬(y:Int)=0:=by omega
 have h3':¬(hi:Int)=0:=by omega
 refine G1 (fs h1 h1') ?_;try with_reducible exact tt
 refine AW.cond rfl (fun h=>?_) (fun h=>?_)
 ·simp [h1] at h
 refine G1 h2 ?_;try with_reducible exact tt
 refine AW.cond rfl (fun h=>?_) (fun h=>?_)
 ·simp [h2] at h
 refine G1 (fs h3 h3') ?_;try with_reducible exact tt
 refine AW.cond rfl (fun h=>?_) (fun h=>?_)
 ·simp [h3] at h
 refine G0 ?_;try with_reducible exact tt
 have hlead:=o_o4 y hy
 rw [←hs] at hlead
 have hq1':=Nat.div_add_mod Y 4294967296
 have hY0':Y%4294967296<4294967296:=Nat.mod_lt _ (by decide)
 have hv':=Nat.div_add_mod v 4294967296
 have hv0':v%4294967296<4294967296:=Nat.mod_lt _ (by decide)
 have f1:IntKind.u64.wrap (s:Int)=s:=wu64 (by omega) (by omega)
 have f2:IntKind.u64.wrap ((y:Int)*2^s)=Y:=by
  rw [show (y:Int)*2^s=((y*2^s:Nat):Int) by rw [Int.natCast_mul,Int.natCast_pow];rfl,hY];exact wu64 (by omega) (by omega)
 have f3:(Y:Int)/4294967296=(Y/4294967296:Nat):=rfl
 have f4:=and32 Y hYl
 have f5:IntKind.u64.wrap ((hi:Int)*2^s)=(hi*2^s:Nat):=by
  rw [show (hi:Int)*2^s=((hi*2^s:Nat):Int) by rw [Int.natCast_mul,Int.natCast_pow];rfl];exact wu64 (by omega) (by omega)
 have f6:IntKind.u64.wrap ((64:Int)-s)=(64:Int)-s:=wu64 (by omega) (by omega)
 have f7:((64:Int)-s).toNat=64-s:=by omega
 have f8:(lo:Int)/2^(64-s)=(lo/2^(64-s):Nat):=by rw [Int.natCast_ediv,Int.natCast_pow];rfl
 have hll:lo/2^(64-s)≤lo:=Nat.div_le_self _ _
 have f9:=bits_or_u64_nat (hi*2^s) (lo/2^(64-s)) hhs (by omega)
 rw [hor] at f9
 have f10:IntKind.u64.wrap ((lo:Int)*2^s)=v:=by
  rw [IntKind.wrap_u64,show (lo:Int)*2^s=((lo*2^s:Nat):Int) by rw [Int.natCast_mul,Int.natCast_pow];rfl,←hv];rfl
 have f11:(v:Int)/4294967296=(v/4294967296:Nat):=rfl
 have f12:=and32 v hvl
 have f13:(s:Int)≤64:=by omega
 have f14:(0:Int)≤64-s:=by omega
 have f15:(64:Int)-s≤64:=by omega
 generalize Y/4294967296=Y1 at *
 generalize Y%4294967296=Y0 at *
 generalize v/4294967296=v1 at *
 generalize v%4294967296=v0 at *
 generalize hi*2^s=h' at *
 generalize lo/2^(64-s)=l' at *
 have hYY:Y=Y1*4294967296+Y0:=by omega
 have hvv:v=v1*4294967296+v0:=by omega
 have hY1:2147483648≤Y1:=by omega
 have hY1l:Y1<4294967296:=by omega
 have hY0:Y0<4294967296:=by omega
 have hv1:v1<4294967296:=by omega
 have hv0:v0<4294967296:=by omega
 have hYn:¬(Y1:Int)=0:=by omega
 have hYn':¬Y1=0:=by omega
 have huq:=Nat.div_add_mod u Y1
 have hqle:u/Y1≤u:=Nat.div_le_self _ _
 have g1:IntKind.u64.wrap ((u:Int)/Y1)=(u/Y1:Nat):=by rw [←Int.natCast_ediv];generalize u/Y1=q at *;exact wu64 (by omega) (by omega)
 have g2:IntKind.u64.wrap (((u/Y1:Nat):Int)*Y1)=(u/Y1*Y1:Nat):=by
  rw [Nat.mul_comm] at huq
  rw [←Int.natCast_mul];generalize u/Y1*Y1=q at *;exact wu64 (by omega) (by omega)
 have g3:IntKind.u64.wrap ((u:Int)-(u/Y1*Y1:Nat))=(u%Y1:Nat):=by
  rw [Nat.mul_comm] at huq
  generalize u/Y1*Y1=q at *
  generalize u%Y1=r at *
  rw [wu64 (by omega) (by omega)];omega
 obtain ⟨q1,hq1⟩:∃q1,q1=(u*4294967296+v1)/Y:=⟨_,rfl⟩
 have gA:IntKind.u64.wrap ((u:Int)-IntKind.u64.wrap ((u:Int)/Y1*Y1))=(u:Int)%Y1:=by
  have h1:((u:Int)/Y1*Y1)=((u/Y1:Nat):Int)*Y1:=by rw [Int.natCast_ediv]
  rw [h1,g2,g3,Int.natCast_emod]
 refine G0 ?_;try with_reducible exact tt
 refine CallS.pu (hlead) (R1 (fs f1 (fs f2 (fs f3 (fs f4 (fs f5 (fs f6 (fs f7 (fs f8 (fs f9 (fs f10 (fs f11 (fs f12 (fs f13 (fs f14 (fs f15 (fs hYn (fs hYn' g1))))))))))))))))) ?_);try with_reducible exact tt
 refine AW.blockCut 0 [(15,.d (.int .u64 q1))] [] (by simp) (by simp) ?_ ?_
 ·-- the half digit 15
  refine AW.loopT (α:=Nat×Nat) 0 (fun a=>[(15,.d (.int .u64 (a.1:Int))),(16,.d (.int .u64 (a.2:Int)))]) (fun _=>[]) (fun a=>hInv Y1 Y0 u v1 a.1 a.2) (fun a=>a.1) (u/Y1,u%Y1) (by simp) (by simp) (o_qr (by omega) (by omega) (by omega)) (by simp [gA]) (by simp) ?_
  rintro ⟨q,r⟩ ⟨i1,i2,i3⟩
  simp only at i1 i2 i3
  have hqY:q*2147483648≤q*Y1:=Nat.mul_le_mul_left _ hY1
  have hend:q*Y0≤r*4294967296+v1→q1=q:=fun h=>by rw [hq1,hYY];exact o_nq i1 h i2
  have hnext:(4294967296≤q∨r*4294967296+v1<q*Y0)→0<q∧(q-1)*Y1+(r+Y1)=u∧u*4294967296+v1<(q-1+1)*(Y1*4294967296+Y0):=fun h=>o_nr i1 (by omega) (by omega) h
  have hstep:∀(T:List V) ,(4294967296≤q∨r*4294967296+v1<q*Y0)→0<q∧hInv Y1 Y0 u v1 (q-1) (r+Y1)∨(0<q∧4294967296≤r+Y1∧q1=q-1):=fun _ h=>by
   obtain ⟨n1,n2,n3⟩:=hnext h
   rcases Nat.lt_or_ge (r+Y1) 4294967296 with h1 | h1
   ·exact .inl ⟨n1,n2,n3,h1⟩
   ·refine .inr ⟨n1,h1,?_⟩
    rw [hq1,hYY]
    exact o_nq n2 (o_ns n2 (by omega) hY0 h1 _) n3
  have b1:IntKind.u64.wrap ((r:Int)+Y1)=((r+Y1:Nat):Int):=wu64 (by omega) (by omega)
  have body:(4294967296≤q∨r*4294967296+v1<q*Y0)→IntKind.u64.wrap ((q:Int)-1)=((q-1:Nat):Int):=fun h=>by
   have:=(hnext h).1
   rw [wu64 (by omega) (by omega)];omega
  by_cases c1:4294967296≤q
  ·have c1':(4294967296:Int)≤q:=by omega
   refine G1 c1' ?_;try with_reducible exact tt
   refine AW.cond rfl (fun h=>?_) (fun h=>?_)
   ·have e1:=body (.inl c1)
    rcases hstep [] (.inl c1) with ⟨n1,n2⟩ | ⟨n1,n2,n3⟩
    ·have n4:¬(4294967296:Int)≤((r+Y1:Nat):Int):=by have:=n2.2.2;omega
     generalize hr':r+Y1=r' at *
     generalize hq':q-1=q' at *
     refine G1 (fs e1 (fs b1 n4)) ?_;try with_reducible exact tt
     refine AW.cond rfl (fun h=>?_) (fun h=>?_)
     ·first | (simp [n4] at h;done) | (simp [n4] at h;omega)
     refine G0 ?_;try with_reducible exact tt
     exact ⟨q',r',n2,by omega,by simp,by simp⟩
    ·have n4:(4294967296:Int)≤((r+Y1:Nat):Int):=by omega
     generalize hr':r+Y1=r' at *
     generalize hq':q-1=q' at *
     refine G1 (fs e1 (fs b1 n4)) ?_;try with_reducible exact tt
     refine AW.cond rfl (fun h=>?_) (fun h=>?_)
     ·refine AW.exit ?_
      (try (simp -implicitDefEqProofs;try simp (disch:=omega) only [w64,wu64]))
      rw [n3]
      exact Sub1.refl _
     ·first | (simp at h;done) | (simp at h;omega)
   ·simp [c1'] at h
  ·have c1':¬(4294967296:Int)≤q:=by omega
   have hqy:q*Y0≤4294967295*4294967295:=Nat.mul_le_mul (by omega) (by omega)
   have e1:IntKind.u64.wrap ((q:Int)*Y0)=((q*Y0:Nat):Int):=by rw [←Int.natCast_mul];exact wu64 (by omega) (by omega)
   have e2:IntKind.u64.wrap (4294967296*(r:Int))=((4294967296*r:Nat):Int):=wu64 (by omega) (by omega)
   have e3:IntKind.u64.wrap (((4294967296*r:Nat):Int)+v1)=((4294967296*r+v1:Nat):Int):=wu64 (by omega) (by omega)
   by_cases c2:r*4294967296+v1<q*Y0
   ·have c2':((4294967296*r+v1:Nat):Int)<((q*Y0:Nat):Int):=by omega
    have e4:=body (.inr c2)
    have hs:=hstep [] (.inr c2)
    clear hend hnext hstep body
    generalize q*Y0=m at *
    generalize 4294967296*r=m2 at *
    generalize m2+v1=m3 at *
    refine G1 (fs c1' (fs e1 (fs e2 (fs e3 c2')))) ?_;try with_reducible exact tt
    refine AW.cond rfl (fun h=>?_) (fun h=>?_)
    ·rcases hs with ⟨n1,n2⟩ | ⟨n1,n2,n3⟩
     ·have n4:¬(4294967296:Int)≤((r+Y1:Nat):Int):=by have:=n2.2.2;omega
      generalize hr':r+Y1=r' at *
      generalize hq':q-1=q' at *
      refine G1 (fs e4 (fs b1 n4)) ?_;try with_reducible exact tt
      refine AW.cond rfl (fun h=>?_) (fun h=>?_)
      ·first | (simp at h;done) | (simp at h;omega)
      refine G0 ?_;try with_reducible exact tt
      exact ⟨q',r',n2,by omega,by simp,by simp⟩
     ·have n4:(4294967296:Int)≤((r+Y1:Nat):Int):=by omega
      generalize hr':r+Y1=r' at *
      generalize hq':q-1=q' at *
      refine G1 (fs e4 (fs b1 n4)) ?_;try with_reducible exact tt
      refine AW.cond rfl (fun h=>?_) (fun h=>?_)
      ·refine AW.exit ?_
       (try (simp -implicitDefEqProofs;try simp (disch:=omega) only [w64,wu64]))
       rw [n3]
       exact Sub1.refl _
      ·first | (simp at h;done) | (simp at h;omega)
    ·first | (simp at h;done) | (simp at h;omega)
   ·have c2':¬((4294967296*r+v1:Nat):Int)<((q*Y0:Nat):Int):=by omega
    have e4:=hend (by omega)
    clear hend hnext hstep body
    generalize q*Y0=m at *
    generalize 4294967296*r=m2 at *
    generalize m2+v1=m3 at *
    refine G1 (fs c1' (fs e1 (fs e2 (fs e3 c2')))) ?_;try with_reducible exact tt
    refine AW.cond rfl (fun h=>?_) (fun h=>?_)
    ·first | (simp at h;done) | (simp at h;omega)
    ·refine AW.exit ?_
     (try (simp -implicitDefEqProofs;try simp (disch:=omega) only [w64,wu64]))
     rw [e4]
     exact Sub1.refl _
 obtain ⟨r1,hr1⟩:∃r1,r1=u*4294967296+v1-q1*Y:=⟨_,rfl⟩
 have hd:=Nat.div_add_mod (u*4294967296+v1) Y
 have hm:=Nat.mod_lt (u*4294967296+v1) (show Y>0 by omega)
 rw [←hq1,Nat.mul_comm] at hd
 have hr1l:r1<Y:=by omega
 have hq1l:q1<4294967296:=by
  rw [hq1,Nat.div_lt_iff_lt_mul (by omega)]
  omega
 have p1:IntKind.u64.wrap ((u:Int)*4294967296)=(u*4294967296%18446744073709551616:Nat):=by rw [IntKind.wrap_u64];rfl
 have p2:IntKind.u64.wrap (((u*4294967296%18446744073709551616:Nat):Int)+v1)=((u*4294967296+v1)%18446744073709551616:Nat):=by rw [IntKind.wrap_u64];omega
 have p3:IntKind.u64.wrap ((q1:Int)*Y)=(q1*Y%18446744073709551616:Nat):=by rw [IntKind.wrap_u64,←Int.natCast_mul];rfl
 have p4:IntKind.u64.wrap (((((u*4294967296+v1)%18446744073709551616:Nat)):Int)-(q1*Y%18446744073709551616:Nat))=(r1:Int):=by
  rw [IntKind.wrap_u64]
  generalize q1*Y=m at *
  omega
 have hrq:=Nat.div_add_mod r1 Y1
 have hrle:r1/Y1≤r1:=Nat.div_le_self _ _
 have g1':IntKind.u64.wrap ((r1:Int)/Y1)=(r1/Y1:Nat):=by rw [←Int.natCast_ediv];generalize r1/Y1=q at *;exact wu64 (by omega) (by omega)
 have g2':IntKind.u64.wrap (((r1/Y1:Nat):Int)*Y1)=(r1/Y1*Y1:Nat):=by
  rw [Nat.mul_comm] at hrq
  rw [←Int.natCast_mul];generalize r1/Y1*Y1=q at *;exact wu64 (by omega) (by omega)
 have g3':IntKind.u64.wrap ((r1:Int)-(r1/Y1*Y1:Nat))=(r1%Y1:Nat):=by
  rw [Nat.mul_comm] at hrq
  generalize r1/Y1*Y1=q at *
  generalize r1%Y1=r at *
  rw [wu64 (by omega) (by omega)];omega
 have gA':IntKind.u64.wrap ((r1:Int)-IntKind.u64.wrap ((r1:Int)/Y1*Y1))=(r1:Int)%Y1:=by
  have h1:((r1:Int)/Y1*Y1)=((r1/Y1:Nat):Int)*Y1:=by rw [Int.natCast_ediv]
  rw [h1,g2',g3',Int.natCast_emod]
 have hp:=halves' (y:=Y) (a:=u*4294967296+v1) (b:=4294967296) (v0:=v0) (q1:=q1) (q0:=(r1*4294967296+v0)/Y) (by omega) hq1.symm (by rw [←hr1])
 rw [←hr1] at hp
 obtain ⟨q0,hq0⟩:∃q0,q0=(r1*4294967296+v0)/Y:=⟨_,rfl⟩
 rw [←hq0] at hp
 rw [show u*18446744073709551616+v=(u*4294967296+v1)*4294967296+v0 by omega] at hQf hRf
 rw [hp.1] at hQf
 rw [hp.2] at hRf
 have hd0:=Nat.div_add_mod (r1*4294967296+v0) Y
 have hm0:=Nat.mod_lt (r1*4294967296+v0) (show Y>0 by omega)
 rw [←hq0,Nat.mul_comm] at hd0
 obtain ⟨r0,hr0⟩:∃r0,r0=r1*4294967296+v0-q0*Y:=⟨_,rfl⟩
 rw [←hr0] at hRf
 have hq0l:q0<4294967296:=by
  rw [hq0,Nat.div_lt_iff_lt_mul (by omega)]
  omega
 have s1:IntKind.u64.wrap ((r1:Int)*4294967296)=(r1*4294967296%18446744073709551616:Nat):=by rw [IntKind.wrap_u64];rfl
 have s2:IntKind.u64.wrap (((r1*4294967296%18446744073709551616:Nat):Int)+v0)=((r1*4294967296+v0)%18446744073709551616:Nat):=by rw [IntKind.wrap_u64];omega
 have s3:IntKind.u64.wrap ((q0:Int)*Y)=(q0*Y%18446744073709551616:Nat):=by rw [IntKind.wrap_u64,←Int.natCast_mul];rfl
 have s4:IntKind.u64.wrap (((((r1*4294967296+v0)%18446744073709551616:Nat)):Int)-(q0*Y%18446744073709551616:Nat))=(r0:Int):=by
  rw [IntKind.wrap_u64]
  generalize q0*Y=m at *
  omega
 have s5:IntKind.u64.wrap ((q1:Int)*4294967296)=(q1*4294967296:Nat):=wu64 (by omega) (by omega)
 have s6:IntKind.u64.wrap (((q1*4294967296:Nat):Int)+q0)=(q1*4294967296+q0:Nat):=wu64 (by omega) (by omega)
 have s7:(r0:Int)/2^s=(r0/2^s:Nat):=by rw [Int.natCast_ediv,Int.natCast_pow];rfl
 rw [←hRf] at s7
 rw [←hQf] at s6
 clear hp hd hm hr1 hq1 hr0 hd0 hm0 hRf hQf
 obtain ⟨t3,ht3⟩:∃t,t=q1*Y%18446744073709551616:=⟨_,rfl⟩
 rw [←ht3] at p3 p4
 obtain ⟨t2,ht2⟩:∃t,t=(u*4294967296+v1)%18446744073709551616:=⟨_,rfl⟩
 rw [←ht2] at p2 p4
 obtain ⟨t1,ht1⟩:∃t,t=u*4294967296%18446744073709551616:=⟨_,rfl⟩
 rw [←ht1] at p1 p2
 clear ht1 ht2 ht3
 simp
 repeat (first | refine AW.seq ?_ | refine AW.block ?_ | (refine AW.reg mix ?_;simp -implicitDefEqProofs [p1,p2,p3,p4,hYn,hYn',g1'];try simp (disch:=omega) only [w64,wu64]) | (refine need.of (by first | omega | kernel_rfl) ?_) | (refine AW.fin ?_;try simp -implicitDefEqProofs [p1,p2,p3,p4,hYn,hYn',g1']))
 refine AW.blockCut 0 [(18,.d (.int .u64 q0))] [] (by simp) (by simp) ?_ ?_
 ·-- the other half digit
  refine AW.loopT (α:=Nat×Nat) 0 (fun a=>[(18,.d (.int .u64 (a.1:Int))),(16,.d (.int .u64 (a.2:Int)))]) (fun _=>[]) (fun a=>hInv Y1 Y0 r1 v0 a.1 a.2) (fun a=>a.1) (r1/Y1,r1%Y1) (by simp) (by simp) (o_qr (by omega) (by omega) (by omega)) (by simp [gA']) (by simp) ?_
  rintro ⟨q,r⟩ ⟨i1,i2,i3⟩
  simp only at i1 i2 i3
  have hqY:q*2147483648≤q*Y1:=Nat.mul_le_mul_left _ hY1
  have hend:q*Y0≤r*4294967296+v0→q0=q:=fun h=>by rw [hq0,hYY];exact o_nq i1 h i2
  have hnext:(4294967296≤q∨r*4294967296+v0<q*Y0)→0<q∧(q-1)*Y1+(r+Y1)=r1∧r1*4294967296+v0<(q-1+1)*(Y1*4294967296+Y0):=fun h=>o_nr i1 (by omega) (by omega) h
  have hstep:∀(T:List V) ,(4294967296≤q∨r*4294967296+v0<q*Y0)→0<q∧hInv Y1 Y0 r1 v0 (q-1) (r+Y1)∨(0<q∧4294967296≤r+Y1∧q0=q-1):=fun _ h=>by
   obtain ⟨n1,n2,n3⟩:=hnext h
   rcases Nat.lt_or_ge (r+Y1) 4294967296 with h1 | h1
   ·exact .inl ⟨n1,n2,n3,h1⟩
   ·refine .inr ⟨n1,h1,?_⟩
    rw [hq0,hYY]
    exact o_nq n2 (o_ns n2 (by omega) hY0 h1 _) n3
  have b1:IntKind.u64.wrap ((r:Int)+Y1)=((r+Y1:Nat):Int):=wu64 (by omega) (by omega)
  have body:(4294967296≤q∨r*4294967296+v0<q*Y0)→IntKind.u64.wrap ((q:Int)-1)=((q-1:Nat):Int):=fun h=>by
   have:=(hnext h).1
   rw [wu64 (by omega) (by omega)];omega
  by_cases c1:4294967296≤q
  ·have c1':(4294967296:Int)≤q:=by omega
   refine G1 c1' ?_;try with_reducible exact tt
   refine AW.cond rfl (fun h=>?_) (fun h=>?_)
   ·have e1:=body (.inl c1)
    rcases hstep [] (.inl c1) with ⟨n1,n2⟩ | ⟨n1,n2,n3⟩
    ·have n4:¬(4294967296:Int)≤((r+Y1:Nat):Int):=by have:=n2.2.2;omega
     generalize hr':r+Y1=r' at *
     generalize hq':q-1=q' at *
     refine G1 (fs e1 (fs b1 n4)) ?_;try with_reducible exact tt
     refine AW.cond rfl (fun h=>?_) (fun h=>?_)
     ·first | (simp [n4] at h;done) | (simp [n4] at h;omega)
     refine G0 ?_;try with_reducible exact tt
     exact ⟨q',r',n2,by omega,by simp,by simp⟩
    ·have n4:(4294967296:Int)≤((r+Y1:Nat):Int):=by omega
     generalize hr':r+Y1=r' at *
     generalize hq':q-1=q' at *
     refine G1 (fs e1 (fs b1 n4)) ?_;try with_reducible exact tt
     refine AW.cond rfl (fun h=>?_) (fun h=>?_)
     ·refine AW.exit ?_
      (try (simp -implicitDefEqProofs;try simp (disch:=omega) only [w64,wu64]))
      rw [n3]
      exact Sub1.refl _
     ·first | (simp at h;done) | (simp at h;omega)
   ·simp [c1'] at h
  ·have c1':¬(4294967296:Int)≤q:=by omega
   have hqy:q*Y0≤4294967295*4294967295:=Nat.mul_le_mul (by omega) (by omega)
   have e1:IntKind.u64.wrap ((q:Int)*Y0)=((q*Y0:Nat):Int):=by rw [←Int.natCast_mul];exact wu64 (by omega) (by omega)
   have e2:IntKind.u64.wrap (4294967296*(r:Int))=((4294967296*r:Nat):Int):=wu64 (by omega) (by omega)
   have e3:IntKind.u64.wrap (((4294967296*r:Nat):Int)+v0)=((4294967296*r+v0:Nat):Int):=wu64 (by omega) (by omega)
   by_cases c2:r*4294967296+v0<q*Y0
   ·have c2':((4294967296*r+v0:Nat):Int)<((q*Y0:Nat):Int):=by omega
    have e4:=body (.inr c2)
    have hs:=hstep [] (.inr c2)
    clear hend hnext hstep body
    generalize q*Y0=m at *
    generalize 4294967296*r=m2 at *
    generalize m2+v0=m3 at *
    refine G1 (fs c1' (fs e1 (fs e2 (fs e3 c2')))) ?_;try with_reducible exact tt
    refine AW.cond rfl (fun h=>?_) (fun h=>?_)
    ·rcases hs with ⟨n1,n2⟩ | ⟨n1,n2,n3⟩
     ·have n4:¬(4294967296:Int)≤((r+Y1:Nat):Int):=by have:=n2.2.2;omega
      generalize hr':r+Y1=r' at *
      generalize hq':q-1=q' at *
      refine G1 (fs e4 (fs b1 n4)) ?_;try with_reducible exact tt
      refine AW.cond rfl (fun h=>?_) (fun h=>?_)
      ·first | (simp at h;done) | (simp at h;omega)
      refine G0 ?_;try with_reducible exact tt
      exact ⟨q',r',n2,by omega,by simp,by simp⟩
     ·have n4:(4294967296:Int)≤((r+Y1:Nat):Int):=by omega
      generalize hr':r+Y1=r' at *
      generalize hq':q-1=q' at *
      refine G1 (fs e4 (fs b1 n4)) ?_;try with_reducible exact tt
      refine AW.cond rfl (fun h=>?_) (fun h=>?_)
      ·refine AW.exit ?_
       (try (simp -implicitDefEqProofs;try simp (disch:=omega) only [w64,wu64]))
       rw [n3]
       exact Sub1.refl _
      ·first | (simp at h;done) | (simp at h;omega)
    ·first | (simp at h;done) | (simp at h;omega)
   ·have c2':¬((4294967296*r+v0:Nat):Int)<((q*Y0:Nat):Int):=by omega
    have e4:=hend (by omega)
    clear hend hnext hstep body
    generalize q*Y0=m at *
    generalize 4294967296*r=m2 at *
    generalize m2+v0=m3 at *
    refine G1 (fs c1' (fs e1 (fs e2 (fs e3 c2')))) ?_;try with_reducible exact tt
    refine AW.cond rfl (fun h=>?_) (fun h=>?_)
    ·first | (simp at h;done) | (simp at h;omega)
    ·refine AW.exit ?_
     (try (simp -implicitDefEqProofs;try simp (disch:=omega) only [w64,wu64]))
     rw [e4]
     exact Sub1.refl _
 clear hq0
 obtain ⟨t6,ht6⟩:∃t,t=q0*Y%18446744073709551616:=⟨_,rfl⟩
 rw [←ht6] at s3 s4
 obtain ⟨t5,ht5⟩:∃t,t=(r1*4294967296+v0)%18446744073709551616:=⟨_,rfl⟩
 rw [←ht5] at s2 s4
 obtain ⟨t4,ht4⟩:∃t,t=r1*4294967296%18446744073709551616:=⟨_,rfl⟩
 rw [←ht4] at s1 s2
 obtain ⟨t7,ht7⟩:∃t,t=q1*4294967296:=⟨_,rfl⟩
 rw [←ht7] at s5 s6
 clear ht4 ht5 ht6 ht7
 simp
 refine G1 (fs s1 (fs s2 (fs s3 (fs s4 (fs s5 (fs s6 (fs s7 f13))))))) ?_;try with_reducible exact tt
end
section
open Go.RowKit
theorem o_qt:∀(ws:List Nat) (j v:Nat),j<ws.length→wval (ws.set j v)+18446744073709551616^j*ws.getD j 0=wval ws+18446744073709551616^j*v
 | [],j,v,h=>by simp at h
 | x::l,0,v,h=>by simp [wval];omega
 | x::l,j+1,v,h=>by
  have ih:=o_qt l j v (by simpa using h)
  simp only [List.set_cons_succ,wval,Nat.pow_succ,List.getD_cons_succ]
  have e:∀z,18446744073709551616^j*18446744073709551616*z=18446744073709551616*(18446744073709551616^j*z):=fun z=>by
   rw [Nat.mul_right_comm,Nat.mul_comm]
  rw [e,e]
  omega
theorem o_qu {ws:List Nat} (h:small ws) (j v:Nat) (hv:v<18446744073709551616):small (ws.set j v):=by
 intro x hx
 rcases List.mem_or_eq_of_mem_set hx with hx | rfl
 ·exact h x hx
 ·exact hv
def uW (ws:List Nat):List V:=U ws
theorem o_qv (ws:List Nat):(uW ws).length=ws.length:=by simp [uW,U]
theorem o_qw {ws:List Nat} {j:Nat} (h:j<ws.length):(uW ws)[j]?=some (.d (.int .u64 (ws.getD j 0:Nat))):=by
 simp [uW,U,List.getD,h]
theorem o_qx (ws:List Nat) (j v:Nat):(uW ws).set j (.d (.int .u64 v))=uW (ws.set j v):=by simp [uW,U,List.map_set]
theorem o_qy (n:Nat) (ws:List Nat):V.lowl n (uW ws)=true:=o_m3 n ws

theorem o_qz {vn v z1 z2 p b xy o c l2 h2:Nat} (hs2:vn+p*o=v+p*l2) (hv:v+p*c=z2+z1) (htot:xy+o+c=l2+b*h2):vn+p*b*h2=z2+(z1+p*xy):=by
 have e2:=congrArg (p * ·) htot
 simp only [Nat.mul_add] at e2
 rw [←Nat.mul_assoc] at e2
 omega
set_option maxHeartbeats 4000000 in
theorem o_r0 (m n:Nat) (hm:size m≤1000000) (hn:size n≤1000000):Eqn Tryz.prog o_bm [.d (.agg [natW m]),.d (.agg [natW n])] [] (.d (.agg [natW (m*n)])) []:=by
 refine Eqn.pure o_bo (o_5e _) ?_
 unfold size at hm hn
 rw [←o_l3 m,←o_l3 n]
 have hsA:=o_l4 m
 have hsB:=o_l4 n
 rw [show natW (wval (words m))=W (words m) by rw [o_l3];rfl,show natW (wval (words n))=W (words n) by rw [o_l3];rfl]
 generalize words m=A at *
 generalize words n=B at *
 refine cc (c':=?z86) ?_ ?_
 case refine_1=>cbv<;>exact rfl
 try simp only [W]
 have hlen:((A.length:Int)+B.length).toNat=A.length+B.length:=by omega
 refine G1 hlen ?_;try with_reducible exact tt
 rw [show List.replicate (A.length+B.length) (V.d (.int .u64 0))=uW (List.replicate (A.length+B.length) 0) by simp [uW,U]]
 refine AW.loopT (α:=Nat×List Nat) 4 (fun s=>[(25,.d (.int .i64 (s.1:Int)))]) (fun s=>[(3,⟨136,uW s.2⟩)]) (fun s=>s.1≤A.length∧s.2.length=A.length+B.length∧small s.2∧wval s.2=wval (A.take s.1)*wval B∧∀j,s.1+B.length≤j→s.2.getD j 0=0) (fun s=>A.length-s.1) (0,List.replicate (A.length+B.length) 0) ?_ ?_ ?_ ?_ ?_ ?_
 ·simp
 ·simp
 ·refine ⟨Nat.zero_le _,by simp,fun x hx=>by rw [List.eq_of_mem_replicate hx];omega,by simp [o_6t,wval],fun j _=>?_⟩
  simp [List.getD,List.getElem?_replicate]
  split<;>rfl
 ·simp
 ·simp [o_qy]
 rintro ⟨i,ws⟩ ⟨hi,hl,hs,hv,hz⟩
 simp only at hi hl hs hv hz
 simp
 by_cases h:i=A.length
 ·subst h
  rw [List.take_length] at hv
  refine G0 ?_;try with_reducible exact tt
  refine AW.cond rfl (fun h=>?_) (fun h=>?_)
  ·simp at h
  refine AW.exit ?_
  (try (simp -implicitDefEqProofs;try simp (disch:=omega) only [w64,wu64]))
  have hcell:uW ws=(ws.map fun x:Nat=>D.int .u64 x).map V.d:=by simp [uW,U]
  rw [hcell]
  refine AW.freeze 3 1 ⟨136,_⟩ (ws.map fun x:Nat=>.int .u64 x) (by rfl) (by rfl) ?_
  simp [←hl,List.take_of_length_le]
  refine G0 ?_;try with_reducible exact tt
  refine CallS.pu (o_lb ws hs (by omega)) (R0 ?_);try with_reducible exact tt
  refine Sub1.of ?_
  rw [hv]
 ·have hi':i<A.length:=by omega
  have hp:(i:Int)<A.length:=by omega
  refine G1 (fs hi' hp) ?_;try with_reducible exact tt
  refine AW.cond rfl (fun h=>?_) (fun h=>?_)
  ·refine G1 (fs hi' hp) ?_;try with_reducible exact tt
   have hwA:A[i]=A.getD i 0:=o_la hi'
   have hx:A[i]<18446744073709551616:=hsA _ (List.getElem_mem _)
   generalize A[i]=x at hwA hx ⊢
   refine AW.loopT (α:=Nat×Nat×List Nat) 4 (fun s=>[(33,.d (.int .i64 (s.1:Int))),(8,.d (.int .u64 (s.2.1:Int)))]) (fun s=>[(3,⟨136,uW s.2.2⟩)]) (fun s=>s.1≤B.length∧s.2.1<18446744073709551616∧s.2.2.length=A.length+B.length∧small s.2.2∧wval s.2.2+18446744073709551616^(i+s.1)*s.2.1=wval (A.take i)*wval B+18446744073709551616^i*(x*wval (B.take s.1))∧∀j,i+B.length≤j→s.2.2.getD j 0=0) (fun s=>B.length-s.1) (0,0,ws) ?_ ?_ ⟨Nat.zero_le _,by simp,hl,hs,by simp [hv,wval],hz⟩ ?_ ?_ ?_
   ·simp
   ·simp
   ·simp
   ·simp [o_qy]
   clear hl hs hv hz
   rintro ⟨k,c,ws'⟩ ⟨hk,hc,hl,hs,hv,hz⟩
   simp only at hk hc hl hs hv hz
   simp
   have hlen':((i:Int)+B.length).toNat=i+B.length:=by omega
   have ew:IntKind.i64.wrap ((i:Int)+B.length)=((i+B.length:Nat):Int):=w64 (by omega) (by omega)
   have eu:=o_qv ws'
   have eset:=fun j v=>o_qx ws' j v
   by_cases hkl:k=B.length
   ·subst hkl
    rw [List.take_length] at hv
    refine G0 ?_;try with_reducible exact tt
    refine AW.cond rfl (fun h=>?_) (fun h=>?_)
    ·simp at h
    have hg:(uW ws').length=A.length+B.length:=by rw [eu];exact hl
    have e2:IntKind.i64.wrap ((i:Int)+1)=(i:Int)+1:=w64 (by omega) (by omega)
    refine G1 (fs hg (fs eset e2)) ?_;try with_reducible exact tt
    refine ⟨i+1,ws'.set (i+B.length) c,⟨hi',by simp [hl],o_qu hs _ _ hc,?_,fun j hj=>?_⟩,by omega,by simp,by rw [hlen'];simp,o_qy _ _⟩
    ·have h1:=o_qt ws' (i+B.length) c (by omega)
     rw [hz _ (Nat.le_refl _),Nat.mul_zero,Nat.add_zero] at h1
     rw [h1,hv,o_7d,Nat.add_mul,hwA,Nat.mul_assoc]
    ·have h1:=hz j (by omega)
     rw [List.getD] at h1
     rw [List.getElem?_set_ne (by omega)]
     exact h1
   ·have hk':k<B.length:=by omega
    have hkp:(k:Int)<B.length:=by omega
    refine G1 (fs hk' hkp) ?_;try with_reducible exact tt
    refine AW.cond rfl (fun h=>?_) (fun h=>?_)
    ·have hy:B[k]<18446744073709551616:=hsB _ (List.getElem_mem _)
     have hwB:B[k]=B.getD k 0:=o_la hk'
     have hg:(uW ws').length=A.length+B.length:=by rw [eu];exact hl
     have hik:i+k<ws'.length:=by omega
     have hik2:((i:Int)+k).toNat=i+k:=by omega
     have ewk:IntKind.i64.wrap ((i:Int)+k)=(i:Int)+k:=w64 (by omega) (by omega)
     have hgo:=o_qw hik
     have ho:=hs.getD (i+k)
     have hset:=fun v=>o_qt ws' (i+k) v hik
     generalize hO:ws'.getD (i+k) 0=o at hgo ho hset
     have e2:IntKind.i64.wrap ((k:Int)+1)=(k:Int)+1:=w64 (by omega) (by omega)
     refine G1 (fs hk' hkp) ?_;try with_reducible exact tt
     generalize B[k]=y at hy hwB ⊢
     have hmul:=o_qp x y hx hy
     have l0:x*y%18446744073709551616<18446744073709551616:=Nat.mod_lt _ (by decide)
     have hxy:x*y≤18446744073709551615*18446744073709551615:=Nat.mul_le_mul (by omega) (by omega)
     have hdm:=Nat.div_add_mod (x*y) 18446744073709551616
     obtain ⟨hi',hhi⟩:∃q,q=x*y/18446744073709551616:=⟨_,rfl⟩
     obtain ⟨lo,hlo⟩:∃q,q=x*y%18446744073709551616:=⟨_,rfl⟩
     obtain ⟨xy,hxyd⟩:∃q,q=x*y:=⟨_,rfl⟩
     rw [←hhi,←hlo] at hmul
     rw [←hlo] at l0
     rw [←hhi,←hlo,←hxyd] at hdm
     rw [←hxyd] at hxy
     obtain ⟨l1,k1,hl1,hll1,hk1⟩:∃l1 k1:Nat,lo+o+0=l1+18446744073709551616*k1∧l1<18446744073709551616∧k1≤1:=⟨(lo+o)%18446744073709551616,(lo+o)/18446744073709551616,by omega,by omega,by omega⟩
     obtain ⟨l2,k2,hl2,hll2,hk2⟩:∃l2 k2:Nat,l1+c+0=l2+18446744073709551616*k2∧l2<18446744073709551616∧k2≤1:=⟨(l1+c)%18446744073709551616,(l1+c)/18446744073709551616,by omega,by omega,by omega⟩
     have htot:xy+o+c=l2+18446744073709551616*(hi'+k1+k2):=by omega
     have hhl:hi'+k1+k2<18446744073709551616:=by omega
     have w1:IntKind.u64.wrap ((hi':Int)+k1)=((hi'+k1:Nat):Int):=wu64 (by omega) (by omega)
     have w2:IntKind.u64.wrap (((hi'+k1:Nat):Int)+k2)=((hi'+k1+k2:Nat):Int):=wu64 (by omega) (by omega)
     clear hhi hlo
     refine CallS.pu (hmul) (R1 (fs hg (fs hgo (fs hik2 ewk))) ?_);try with_reducible exact tt
     generalize hi'+k1=h1 at *
     generalize h1+k2=h2 at *
     refine CallS.pu (o_lg lo o 0 l1 k1 l0 ho (by omega) hll1 hl1) (R1 w1 ?_);try with_reducible exact tt
     refine CallS.pu (o_lg l1 c 0 l2 k2 hll1 hc (by omega) hll2 hl2) (R1 (fs w2 (fs hg (fs hik2 (fs ewk (fs eset e2))))) ?_);try with_reducible exact tt
     refine ⟨k+1,h2,ws'.set (i+k) l2,⟨hk',hhl,by simpa using hl,o_qu hs _ _ hll2,?_,fun j hj=>?_⟩,by omega,by simp,Subs.refl _,o_qy _ _⟩
     ·have hs2:=hset l2
      have e1:x*wval (B.take (k+1))=x*wval (B.take k)+18446744073709551616^k*xy:=by
       rw [o_7d,←hwB,Nat.mul_add,hxyd]
       congr 1
       rw [←Nat.mul_assoc,Nat.mul_comm x,Nat.mul_assoc]
      rw [e1,Nat.mul_add,←Nat.mul_assoc (18446744073709551616^i) (18446744073709551616^k) xy,←Nat.pow_add,←Nat.add_assoc i k 1,Nat.pow_succ]
      exact o_qz hs2 hv htot
     ·have h1:=hz j hj
      rw [←List.getD_eq_getElem?_getD]
      rw [List.getD] at h1 ⊢
      rw [List.getElem?_set_ne (by omega)]
      exact h1
    ·simp [hk'] at h
  ·simp [hi'] at h
end
section
open Go.RowKit
theorem o_r1 {x n m:Nat} (h:x<2^n) (hm:n≤64*m):size x≤m:=by
 apply o_7b (o_l5 x)
 rw [o_l3,show (18446744073709551616:Nat)=2^64 by rfl,←Nat.pow_mul]
 exact Nat.lt_of_lt_of_le h (Nat.pow_le_pow_right (by omega) hm)
def splitW (y:Nat):List Nat→List Nat×Nat
 | []=>([],0)
 | x::l=>(((splitW y l).2*18446744073709551616+x)/y::(splitW y l).1,((splitW y l).2*18446744073709551616+x)%y)
theorem o_r2 {y:Nat} (h0:0<y):∀{l:List Nat},small l→wval l=wval (splitW y l).1*y+(splitW y l).2∧(splitW y l).2<y∧small (splitW y l).1∧(splitW y l).1.length=l.length
 | [],_=>⟨by simp [splitW,wval],h0,by simp [small,splitW],rfl⟩
 | x::l,h=>by
  have hx:=h x (by simp)
  obtain ⟨h1,h2,h3,h4⟩:=o_r2 h0 (l:=l) (fun z hz=>h z (by simp [hz]))
  simp only [splitW,wval,List.length_cons,h4]
  generalize splitW y l=s at *
  obtain ⟨Q,r⟩:=s
  simp only at *
  have hd:=Nat.div_add_mod (r*18446744073709551616+x) y
  have hm:=Nat.mod_lt (r*18446744073709551616+x) h0
  have hq:(r*18446744073709551616+x)/y<18446744073709551616:=by
   rw [Nat.div_lt_iff_lt_mul h0]
   have:(r+1)*18446744073709551616≤y*18446744073709551616:=Nat.mul_le_mul_right _ h2
   omega
  refine ⟨?_,hm,?_,trivial⟩
  ·rw [Nat.mul_comm y] at hd
   have e:18446744073709551616*(wval Q*y+r)=18446744073709551616*wval Q*y+r*18446744073709551616:=by rw [Nat.mul_add,Nat.mul_assoc,Nat.mul_comm r]
   rw [h1,e,Nat.add_mul]
   obtain ⟨z,hz⟩:∃z,z=(r*18446744073709551616+x)%y:=⟨_,rfl⟩
   obtain ⟨z2,hz2⟩:∃z,z=(r*18446744073709551616+x)/y*y:=⟨_,rfl⟩
   obtain ⟨z3,hz3⟩:∃z,z=18446744073709551616*wval Q*y:=⟨_,rfl⟩
   rw [←hz,←hz2] at hd
   rw [←hz,←hz2,←hz3]
   omega
  ·intro z hz
   rcases List.mem_cons.1 hz with rfl | hz
   ·exact hq
   ·exact h3 z hz

theorem o_r3 {y:Nat} (h0:0<y) {l:List Nat} (h:small l):wval (splitW y l).1=wval l/y∧(splitW y l).2=wval l%y:=by
 obtain ⟨h1,h2,_,_⟩:=o_r2 h0 h
 rw [h1]
 constructor
 ·rw [Nat.mul_comm,Nat.mul_add_div h0,Nat.div_eq_of_lt h2,Nat.add_zero]
 ·rw [Nat.mul_comm,Nat.mul_add_mod];exact (Nat.mod_eq_of_lt h2).symm

def splitC (y:Nat) (ws:List Nat) (k:Nat):List V:=U (List.replicate k 0++(splitW y (ws.drop k)).1)
theorem o_r4 {y:Nat} (h0:0<y) {ws:List Nat} (hs:small ws) {k:Nat} (hk:k≤ws.length):(splitC y ws k).length=ws.length:=by
 have:=(o_r2 h0 (l:=ws.drop k) (fun x hx=>hs x (List.mem_of_mem_drop hx))).2.2.2
 simp [splitC,U,this];omega

set_option maxHeartbeats 2000000 in
theorem o_r5 (ws:List Nat) (y:Nat) (hs:small ws) (hn:ws.length≤1000000) (h0:0<y) (hy:y<18446744073709551616):Eqn Tryz.prog o_gk [.d (W ws),.d (.int .u64 y)] [] (.tup [.d (W (splitW y ws).1),.d (.int .u64 (splitW y ws).2)]) []:=by
 refine Eqn.pure o_gm (o_lr _ _) ?_
 refine cc (c':=?z87) ?_ ?_
 case refine_1=>cbv<;>exact rfl
 try simp only [W]
 have hlen:=(o_r2 h0 hs).2.2.2
 rw [hlen]
 have hlowC:∀k,V.lowl 1 (splitC y ws k)=true:=fun k=>o_m3 1 _
 refine G0 ?_;try with_reducible exact tt
 rw [show List.replicate ws.length (V.d (.int .u64 0))=splitC y ws ws.length by simp [splitC,U,splitW]]
 refine AW.loopT (α:=Nat) 1 (fun k=>[(8,.d (.int .i64 ((k:Int)-1))),(7,.d (.int .u64 ((splitW y (ws.drop k)).2:Nat)))]) (fun k=>[(0,⟨136,splitC y ws k⟩)]) (fun k=>k≤ws.length) (fun k=>k) ws.length ?_ ?_ (Nat.le_refl _) ?_ ?_ ?_
 ·simp
 ·simp
 ·simp [splitW]
 ·simp [hlowC]
 rintro k hk
 simp
 cases k with
 | zero =>
  refine G0 ?_;try with_reducible exact tt
  refine AW.cond rfl (fun h=>?_) (fun h=>?_)
  ·simp at h
  refine AW.exit ?_
  (try (simp -implicitDefEqProofs;try simp (disch:=omega) only [w64,wu64]))
  rw [show splitC y ws 0=((splitW y ws).1.map fun x:Nat=>D.int .u64 x).map V.d by simp [splitC,U]]
  refine AW.freeze 0 1 ⟨136,_⟩ ((splitW y ws).1.map fun x:Nat=>.int .u64 x) (by rfl) (by rfl) ?_
  simp [←hlen,List.take_of_length_le]
  refine G0 ?_;try with_reducible exact tt
 | succ k =>
  have hk':k<ws.length:=hk
  have hdrop:ws.drop k=ws[k]::ws.drop (k+1):=List.drop_eq_getElem_cons hk'
  obtain ⟨i1,i2,i3,i4⟩:=o_r2 h0 (l:=ws.drop (k+1)) (fun x hx=>hs x (List.mem_of_mem_drop hx))
  have hl:=o_r4 h0 hs hk
  have hset:(splitC y ws (k+1)).set k (.d (.int .u64 (((splitW y (ws.drop (k+1))).2*18446744073709551616+ws[k])/y:Nat)))=splitC y ws k:=by
   rw [splitC,splitC,hdrop,splitW,U,U,List.replicate_succ',List.append_assoc,List.map_append,List.map_append,List.set_append_right _ _ (by simp)]
   simp
  have hrest:(splitW y (ws.drop k)).2=((splitW y (ws.drop (k+1))).2*18446744073709551616+ws[k])%y:=by rw [hdrop,splitW]
  have hx:ws[k]<18446744073709551616:=hs _ (List.getElem_mem _)
  have hdv:=o_qs (splitW y (ws.drop (k+1))).2 ws[k] y i2 hx hy
  rw [←hrest] at hdv
  generalize (splitW y (ws.drop (k+1))).2=r at *
  have e0:(0:Int)≤(k:Int)+1-1:=by omega
  have e1:(k:Int)+1-1=k:=by omega
  have e2:(((k:Int)+1-1)).toNat=k:=by omega
  have e3:IntKind.i64.wrap ((k:Int)-1)=(k:Int)-1:=w64 (by omega) (by omega)
  generalize hxk:ws[k]=x at *
  generalize hqd:(r*18446744073709551616+x)/y=q at *
  generalize hr'':(splitW y (ws.drop k)).2=r' at *
  refine G1 (fs e0 (fs e1 (fs e2 hk'))) ?_;try with_reducible exact tt
  refine AW.cond rfl (fun h=>?_) (fun h=>?_)
  ·refine G1 (fs e0 (fs e1 (fs e2 (fs hk' hxk)))) ?_;try with_reducible exact tt
   refine CallS.pu (hdv) (R1 (fs e1 (fs hl (fs hk' (fs hset e3)))) ?_);try with_reducible exact tt
   refine ⟨k,by omega,by omega,?_⟩
   rw [hr'']
   simp [hlowC]
  ·simp at h

theorem o_r6 (a b:Nat) (ha:size a≤1000000) (h0:0<b) (hb:b<18446744073709551616∨a<b) (hbs:size b≤1000000):Eqn Tryz.prog o_en [.d (.agg [natW a]),.d (.agg [natW b])] [] (.tup [.d (.agg [natW (a/b)]),.d (.agg [natW (a%b)]),.d (.int .i64 0)]) []:=by
 refine Eqn.pure o_ep (o_ls _ _ _) ?_
 refine cc (c':=?z88) ?_ ?_
 case refine_1=>cbv<;>exact rfl
 refine G0 ?_;try with_reducible exact tt
 refine CallS.pu (o_ld b) (R0 ?_);try with_reducible exact tt
 have hz:(b==0)=false:=by simp;omega
 refine AW.cond rfl (fun h=>?_) (fun h=>?_)
 ·simp [hz] at h
 refine G0 ?_;try with_reducible exact tt
 refine CallS.pu (o_lf a b ha hbs) (R0 ?_);try with_reducible exact tt
 refine AW.cond rfl (fun h=>?_) (fun h=>?_)
 ·have hlt:a<b:=by simpa [o_m8] using h
  rw [Nat.div_eq_of_lt hlt,Nat.mod_eq_of_lt hlt]
  refine G0 ?_;try with_reducible exact tt
  refine CallS.pu (o_lc (words a) (o_l4 a) (by unfold size at ha;omega)) (R0 ?_);try with_reducible exact tt
  rw [o_l3]
  exact Sub1.tup (Subs.cons (Sub1.nat0) (Subs.refl _))
 ·have hge:¬a<b:=fun hlt=>by simp [o_m8,hlt] at h
  have hb1:b<18446744073709551616:=by omega
  have e':natW b = .sl 1 [.int .u64 b]:=by rw [natW,o_m6 (by omega) hb1];rfl
  have hsp:=o_r5 (words a) b (o_l4 a) (by unfold size at ha;omega) h0 hb1
  obtain ⟨q1,q2,q3,q4⟩:=o_r2 h0 (o_l4 a)
  have hd:=o_r3 h0 (o_l4 a)
  rw [o_l3] at hd
  have htr:=o_lb (splitW b (words a)).1 q3 (by unfold size at ha;omega)
  rw [hd.1] at htr
  rw [hd.2] at hsp q2
  rw [show W (words a)=natW a from rfl] at hsp
  generalize (splitW b (words a)).1=qs at *
  refine G1 e' ?_;try with_reducible exact tt
  refine AW.cond rfl (fun h=>?_) (fun h=>?_)
  ·refine G1 e' ?_;try with_reducible exact tt
   refine CallS.pu (hsp) (R0 ?_);try with_reducible exact tt
   refine CallS.pu (htr) (R0 ?_);try with_reducible exact tt
   refine CallS.pf 4 1 ⟨136,_⟩ [.int .u64 (a%b:Nat)] (o_lc [a%b] (o_m7 (by omega)) (by simp)) (by first | rfl | (simp;done)) (R0 ?_);try with_reducible exact tt
   simp [wval]
  ·simp [e'] at h

theorem o_r7 (b:Nat) (hb:0<b) (hbs:size b≤1000000):Eqn Tryz.prog o_ek [.d (.agg [natW 1]),.d (.agg [natW b])] [] (.d (.agg [natW 1])) []:=by
 refine Eqn.pure o_em (o_5e _) ?_
 refine cc (c':=?z89) ?_ ?_
 case refine_1=>cbv<;>exact rfl
 have s1:size 1≤1:=o_md (by omega)
 refine G0 ?_;try with_reducible exact tt
 refine AW.loopT (α:=Nat×Nat) 3 (fun _=>[]) (fun p=>[(0,⟨47,[.d (natW p.1)]⟩),(1,⟨47,[.d (natW p.2)]⟩)]) (fun p=>(p=(1,b)∨(p=(b,1)∧1<b)∨p=(1,0))) (fun p=>if p=(1,b)∧0<b then 3 else if p.2=0 then 1 else 2) (1,b) ?_ ?_ (.inl rfl) ?_ ?_ ?_
 ·simp
 ·simp
 ·simp
 ·simp
 rintro ⟨x,y⟩ hxy
 simp
 have hy:size y≤1000000∧size x≤1000000:=by
  rcases hxy with h | ⟨h,_⟩ | h<;>cases h
  ·exact ⟨hbs,by omega⟩
  ·exact ⟨by omega,hbs⟩
  ·exact ⟨by rw [show size 0=0 from rfl];omega,by omega⟩
 refine G0 ?_;try with_reducible exact tt
 refine CallS.pu (o_ld y) (R0 ?_);try with_reducible exact tt
 by_cases h0:y=0
 ·subst h0
  have hx:x=1:=by
   rcases hxy with h | ⟨h,_⟩ | h<;>cases h
   ·omega
   ·rfl
  subst hx
  simp
  refine AW.cond rfl (fun h=>?_) (fun h=>?_)
  ·simp at h
  refine AW.exit ?_
  (try (simp -implicitDefEqProofs;try simp (disch:=omega) only [w64,wu64]))
  refine G0 ?_;try with_reducible exact tt
  refine CallS.pu (o_lc (words 1) (o_l4 1) (by unfold size at s1;omega)) (R0 ?_);try with_reducible exact tt
  refine Sub1.of ?_
  rw [o_l3]
 ·refine AW.cond rfl (fun h=>?_) (fun h=>?_)
  ·refine G0 ?_;try with_reducible exact tt
   have hd:y<18446744073709551616∨x<y:=by
    rcases hxy with h | ⟨h,h1⟩ | h<;>cases h
    ·rcases Nat.lt_or_ge 1 b with h | h
     ·exact .inr h
     ·exact .inl (by omega)
    ·exact .inl (by omega)
    ·exact absurd rfl h0
   refine CallS.pu (o_r6 x y hy.2 (by omega) hd hy.1) (R0 ?_);try with_reducible exact tt
   rcases hxy with h | ⟨h,h1⟩ | h<;>cases h
   ·rcases Nat.lt_or_ge 1 b with h | h
    ·refine .inr (.inl ⟨b,1,⟨⟨rfl,rfl⟩,h⟩,?_,Subs.refl _,?_⟩)
     ·rw [if_neg (by omega),if_neg (by omega),if_pos ⟨⟨rfl,rfl⟩,hb⟩]
      omega
     ·rw [Nat.mod_eq_of_lt h];exact Subs.refl _
    ·obtain rfl:b=1:=by omega
     exact .inr (.inr ⟨by simp,Subs.refl _,by simp⟩)
   ·refine .inr (.inr ⟨?_,Subs.refl _,by rw [Nat.mod_one];exact Subs.refl _⟩)
    rw [if_neg (by omega),if_neg (by omega),if_neg (by omega)]
    omega
   ·exact absurd rfl h0
  ·simp at h
   exact absurd h h0

theorem o_r8 (b:Nat) (h0:0<b) (hb:size b≤1000000):Eqn Tryz.prog o_bg [.d (.agg [natW 1,.bool false]),.d (.agg [natW b])] [] (.d (.agg [natW 1,.bool false,natW (b-1)])) []:=by
 refine Eqn.pure o_bi (o_5e _) ?_
 refine cc (c':=?z90) ?_ ?_
 case refine_1=>cbv<;>exact rfl
 have s1:size 1≤1:=o_md (by omega)
 have h1:=o_r6 1 1 (by omega) (by omega) (.inl (by omega)) (by omega)
 have h2:=o_r6 b 1 hb (by omega) (.inl (by omega)) (by omega)
 rw [Nat.div_one] at h1 h2
 refine G0 ?_;try with_reducible exact tt
 refine CallS.pu (o_mf 1 false) (R0 ?_);try with_reducible exact tt
 refine CallS.pu (o_r7 b h0 hb) (R0 ?_);try with_reducible exact tt
 refine CallS.pu (o_mf 1 false) (R0 ?_);try with_reducible exact tt
 refine CallS.pu (h1) (R0 ?_);try with_reducible exact tt
 refine CallS.pu (h2) (R0 ?_);try with_reducible exact tt
 refine CallS.pf 8 1 ⟨136,_⟩ [.int .u64 (1:Nat)] (o_lc [1] (o_m7 (by omega)) (by simp)) (by first | rfl | (simp;done)) (R0 ?_);try with_reducible exact tt
 refine CallS.pu (o_lx b 1 hb (by omega)) (R0 ?_);try with_reducible exact tt
 refine CallS.pu (o_mg 1 false) (R0 ?_);try with_reducible exact tt
 refine CallS.pu (o_me 1) (R0 ?_);try with_reducible exact tt

theorem o_r9 (k:Nat) (hk:k≤8192):size (2^k)≤129:=o_r1 (n:=k+1) (Nat.pow_lt_pow_right (by omega) (Nat.lt_succ_self _)) (by omega)
theorem o_ra (k:Nat) (hk:k≤8192):Eqn Tryz.prog o_fn [.d (.int .i64 k)] [] (.tup [.d (.agg [natW 1,.bool false,natW (2^k-1)]),.d (.int .i64 0)]) []:=by
 refine Eqn.pure o_fp (o_lr _ _) ?_
 refine cc (c':=?z91) ?_ ?_
 case refine_1=>cbv<;>exact rfl
 have hs:=o_r9 k hk
 have hp:=Nat.two_pow_pos k
 have s1:size 1≤1:=o_md (by omega)
 have h1:=o_m5 1 k (by omega) hk
 rw [Nat.one_mul] at h1
 generalize 2^k=b at *
 refine G0 ?_;try with_reducible exact tt
 refine CallS.pf 1 1 ⟨136,_⟩ [.int .u64 (1:Nat)] (o_lc [1] (o_m7 (by omega)) (by simp)) (by first | rfl | (simp;done)) (R0 ?_);try with_reducible exact tt
 refine CallS.pu (h1) (R0 ?_);try with_reducible exact tt
 refine AW.cond rfl (fun h=>?_) (fun h=>?_)
 ·simp at h
 refine G0 ?_;try with_reducible exact tt
 refine CallS.pu (o_mh 1 (by omega)) (R0 ?_);try with_reducible exact tt
 refine CallS.pu (o_r8 b hp (by omega)) (R0 ?_);try with_reducible exact tt
end
section
def wordsN:Nat→Nat→List Nat
 | 0,_=>[]
 | m+1,x=>x%18446744073709551616::wordsN m (x/18446744073709551616)
theorem o_rb:∀m x,(wordsN m x).length=m
 | 0,_=>rfl
 | m+1,x=>by simp [wordsN,o_rb m]
theorem o_rc:∀m x,small (wordsN m x)
 | 0,_=>by simp [wordsN,small]
 | m+1,x=>by
  intro y hy
  rw [wordsN,List.mem_cons] at hy
  rcases hy with rfl | hy
  ·omega
  ·exact o_rc m _ y hy
theorem o_rd:∀m x,x<18446744073709551616^m→wval (wordsN m x)=x
 | 0,x,h=>by simp at h;simp [wordsN,wval,h]
 | m+1,x,h=>by
  rw [wordsN,wval,o_rd m _ (by rw [Nat.pow_succ] at h;rw [Nat.div_lt_iff_lt_mul (by decide)];exact h)]
  omega
theorem o_re:∀{l:List Nat},small l→wordsN l.length (wval l)=l
 | [],_=>rfl
 | x::l,h=>by
  have hx:=h x (by simp)
  have hl:small l:=fun y hy=>h y (by simp [hy])
  rw [List.length_cons,wordsN,wval]
  congr 1
  ·omega
  ·rw [show (x+18446744073709551616*wval l)/18446744073709551616=wval l by omega];exact o_re hl
theorem o_rf {l:List Nat} {m x:Nat} (h:small l) (hl:l.length=m) (hv:wval l=x):l=wordsN m x:=by rw [←hl,←hv,o_re h]

def ovr (ws:List Nat) (k:Nat) (l:List Nat):List Nat:=ws.take k++(l++ws.drop (k+l.length))
theorem o_rg {ws:List Nat} {k:Nat} {l:List Nat} (h:k+l.length≤ws.length):(ovr ws k l).length=ws.length:=by simp [ovr];omega
theorem o_rh {ws:List Nat} {k:Nat} {l:List Nat} (h:small ws) (hl:small l):small (ovr ws k l):=by
 intro x hx
 simp only [ovr,List.mem_append] at hx
 rcases hx with hx | hx | hx
 ·exact h x (List.mem_of_mem_take hx)
 ·exact hl x hx
 ·exact h x (List.mem_of_mem_drop hx)
theorem o_ri (ws:List Nat) (k:Nat):ovr ws k []=ws:=by simp [ovr]
theorem o_rj {ws:List Nat} {k:Nat} {l:List Nat} (h:k+l.length<ws.length):(ovr ws k l).getD (k+l.length) 0=ws.getD (k+l.length) 0:=by
 simp only [ovr,List.getD_eq_getElem?_getD]
 congr 1
 rw [List.getElem?_append_right (by rw [List.length_take];omega),List.length_take,Nat.min_eq_left (by omega),List.getElem?_append_right (by omega),List.getElem?_drop]
 congr 1;omega
theorem o_rk {ws:List Nat} {k:Nat} {l:List Nat} (h:k+l.length<ws.length) (v:Nat):(ovr ws k l).set (k+l.length) v=ovr ws k (l++[v]):=by
 have e:ws.drop (k+l.length)=ws.getD (k+l.length) 0::ws.drop (k+(l.length+1)):=by
  rw [List.getD_eq_getElem?_getD,List.getElem?_eq_getElem h,Option.getD_some,←Nat.add_assoc]
  exact List.drop_eq_getElem_cons h
 simp only [ovr]
 rw [List.set_append_right _ _ (by rw [List.length_take];omega),List.length_take,Nat.min_eq_left (by omega),show k+l.length-k=l.length by omega,List.set_append_right _ _ (by omega),Nat.sub_self,e]
 simp
theorem o_rl {ws:List Nat} {k:Nat} {l r:List Nat} (h:k+l.length≤ws.length) (hl:l.length≤r.length):ovr (ovr ws k l) k r=ovr ws k r:=by
 simp only [ovr]
 have h1:(ws.take k).length=k:=by rw [List.length_take];omega
 rw [List.take_append_of_le_length (by omega),List.take_of_length_le (by omega)]
 congr 2
 rw [List.drop_append,List.drop_eq_nil_of_le (by omega),List.nil_append,h1,List.drop_append,List.drop_eq_nil_of_le (by omega),List.nil_append,List.drop_drop]
 congr 1;omega
theorem o_rm {ws:List Nat} {k:Nat} {l:List Nat} (h:k+l.length≤ws.length):((ovr ws k l).drop k).take l.length=l:=by
 have h1:(ws.take k).length=k:=by rw [List.length_take];omega
 simp only [ovr]
 rw [List.drop_append,List.drop_eq_nil_of_le (by omega),List.nil_append,h1,Nat.sub_self,List.drop_zero,List.take_append_of_le_length (by omega),List.take_of_length_le (by omega)]
theorem o_rn {ws:List Nat} {k n i:Nat} (h:i<n):((ws.drop k).take n).getD i 0=ws.getD (k+i) 0:=by
 simp only [List.getD_eq_getElem?_getD,List.getElem?_take,if_pos h,List.getElem?_drop]
theorem o_ro {ws:List Nat} {k n:Nat} (h:k+n≤ws.length):((ws.drop k).take n).length=n:=by simp;omega
theorem o_rp {ws:List Nat} (h:small ws) (k:Nat):small (ws.drop k):=fun x hx=>h x (List.mem_of_mem_drop hx)
theorem o_rq {l:List Nat} (h:small l) {v:Nat} (hv:v<18446744073709551616):small (l++[v]):=by
 intro x hx
 rw [List.mem_append,List.mem_singleton] at hx
 rcases hx with hx | rfl
 ·exact h x hx
 ·exact hv
theorem o_rr (l:List Nat) (v:Nat):wval (l++[v])=wval l+18446744073709551616^l.length*v:=by
 rw [o_6s];simp [wval]
theorem o_rs:small []:=by simp [small]

theorem o_rt {l0 g D0 U0 p bo c x y lo hi l2 k2 nb z:Nat} (hv:l0+g*D0=U0+p*(bo+c)) (hyg:y*g=hi*18446744073709551616+lo) (h1:lo+c=l2+18446744073709551616*k2) (h2:x+18446744073709551616*nb=z+l2+bo) :
  l0+p*z+g*(D0+p*y)=U0+p*x+p*18446744073709551616*(nb+(hi+k2)):=by
 have e1:p*x+18446744073709551616*(p*nb)=p*z+p*l2+p*bo:=by
  have:=congrArg (p * ·) h2
  simp only [Nat.mul_add] at this
  rw [←Nat.mul_assoc,Nat.mul_comm p 18446744073709551616,Nat.mul_assoc] at this
  exact this
 have e2:p*lo+p*c=p*l2+18446744073709551616*(p*k2):=by
  have:=congrArg (p * ·) h1
  simp only [Nat.mul_add] at this
  rw [←Nat.mul_assoc p 18446744073709551616,Nat.mul_comm p 18446744073709551616,Nat.mul_assoc 18446744073709551616] at this
  exact this
 have e3:g*(p*y)=18446744073709551616*(p*hi)+p*lo:=by
  have:=congrArg (p * ·) hyg
  simp only [Nat.mul_add] at this
  rw [←Nat.mul_assoc p hi,Nat.mul_comm (p*hi),←Nat.mul_assoc p y g,Nat.mul_comm (p*y) g] at this
  exact this
 have e4:p*18446744073709551616*(nb+(hi+k2))=18446744073709551616*(p*nb)+18446744073709551616*(p*hi)+18446744073709551616*(p*k2):=by
  rw [Nat.mul_comm p,Nat.mul_assoc,Nat.mul_add,Nat.mul_add,Nat.mul_add,Nat.mul_add];omega
 rw [Nat.mul_add,e3,e4]
 rw [Nat.mul_add] at hv
 omega
theorem o_ru {ws:List Nat} {n:Nat} (h:small ws) (hl:ws.length=n):wval ws<18446744073709551616^n:=by rw [←hl];exact o_6u h
theorem o_rv {u:List Nat} {n z c b x nb gD wl Un:Nat} {l':List Nat} (h1:wval l'=wl+18446744073709551616^n*z) (hv:wl+gD=Un+18446744073709551616^n*(b+c)) (hux:wval u=Un+18446744073709551616^n*x) (hzb:x+18446744073709551616*nb=z+c+b) (hnb:nb≤1) (hs:small l') (hl:l'.length=n+1) (hus:small u) (hul:u.length=n+1) :
  nb=(if wval u<gD then 1 else 0)∧l'=wordsN (n+1) (wval u+(if wval u<gD then 18446744073709551616^(n+1) else 0)-gD):=by
 have e1:wval l'+gD=wval u+18446744073709551616^(n+1)*nb:=by
  have:=congrArg (18446744073709551616^n * ·) hzb
  simp only [Nat.mul_add] at this
  rw [←Nat.mul_assoc,←Nat.pow_succ] at this
  rw [Nat.mul_add] at hv
  simp only [Nat.succ_eq_add_one] at this
  omega
 have hlt:=o_ru hs hl
 have hult:=o_ru hus hul
 generalize 18446744073709551616^(n+1)=M at *
 have hc:nb=0∨nb=1:=by omega
 rcases hc with rfl | rfl
 ·rw [if_neg (by omega),if_neg (by omega)]
  exact ⟨rfl,o_rf hs hl (by omega)⟩
 ·rw [if_pos (by omega),if_pos (by omega)]
  exact ⟨rfl,o_rf hs hl (by omega)⟩
theorem o_rw {u:List Nat} {m gD:Nat} (hus:small u) (hul:u.length=m) (hg:gD≤wval u+18446744073709551616^m):wval (wordsN m (wval u+(if wval u<gD then 18446744073709551616^m else 0)-gD))+gD=wval u+18446744073709551616^m*(if wval u<gD then 1 else 0):=by
 have hult:=o_ru hus hul
 by_cases h:wval u<gD
 ·rw [if_pos h,if_pos h,o_rd _ _ (by omega)];omega
 ·rw [if_neg h,if_neg h,o_rd _ _ (by omega)];omega
theorem o_rx {ws:List Nat} {k:Nat} {l:List Nat} {j:Nat} (h:k+l.length≤ws.length) (hj:j<l.length):(ovr ws k l).getD (k+j) 0=l.getD j 0:=by
 have:=o_rm h
 rw [←o_rn (n:=l.length) hj,this]
theorem o_ry {wr p c wl wd x y z nc:Nat} (hv:wr+p*c=wl+wd) (h:x+y+c=z+18446744073709551616*nc):wr+p*z+p*18446744073709551616*nc=wl+p*x+(wd+p*y):=by
 have:=congrArg (p * ·) h
 simp only [Nat.mul_add] at this
 rw [←Nat.mul_assoc] at this
 omega
theorem o_rz {wr p c wl wd wL x v nv:Nat} (hv:wr+p*c=wl+wd) (hl:wL=wl+p*x) (h:x+c=v+18446744073709551616*nv):wL+wd=wr+p*v+p*18446744073709551616*nv:=by
 have:=congrArg (p * ·) h
 simp only [Nat.mul_add] at this
 rw [←Nat.mul_assoc] at this
 omega
theorem o_s0 {d:List Nat} {n:Nat} (_:n<d.length):d.getD n 0*18446744073709551616^n≤wval d:=by
 have h1:=o_7d d n
 have h2:wval d=wval (d.take (n+1))+18446744073709551616^(d.take (n+1)).length*wval (d.drop (n+1)):=by rw [←o_6s,List.take_append_drop]
 rw [h2,h1,Nat.mul_comm]
 omega
theorem o_s1 {u:List Nat} {n m:Nat} (hs:small u) (hl:u.length=m+1) (hm:m=n+1):wval u/18446744073709551616^n=u.getD m 0*18446744073709551616+u.getD n 0:=by
 have h1:=o_7d u n
 have h2:=o_7d u m
 rw [List.take_of_length_le (by omega)] at h2
 have h3:=o_7m hs n
 have hp:0<18446744073709551616^n:=Nat.pow_pos (by decide)
 rw [h2,hm,h1,Nat.pow_succ,Nat.mul_assoc,Nat.add_assoc,←Nat.mul_add,Nat.add_mul_div_left _ _ hp,Nat.div_eq_of_lt h3,Nat.zero_add,Nat.mul_comm 18446744073709551616]
 omega
theorem o_s2 {U0 W1 Bk D S Q BQ:Nat} (h:U0=W1+Bk*S+D*BQ) (hq:BQ=Bk*18446744073709551616*Q):U0=W1+Bk*(S%D)+D*(Bk*(S/D+18446744073709551616*Q)):=by
 have h1:=Nat.div_add_mod S D
 rw [h,hq]
 have e1:Bk*S=Bk*(S%D)+D*(Bk*(S/D)):=by
  conv=>lhs;rw [←h1]
  rw [Nat.mul_add,Nat.mul_left_comm,Nat.add_comm]
 rw [e1,Nat.mul_add Bk,Nat.mul_add D,Nat.mul_assoc Bk]
 omega
theorem o_s3 {ws:List Nat} (k n:Nat) (h:k+n≤ws.length):wval (ws.take (k+n))=wval (ws.take k)+18446744073709551616^k*wval ((ws.drop k).take n):=by
 have e:ws.take (k+n)=ws.take k++(ws.drop k).take n:=by rw [List.take_add]
 rw [e,o_6s,List.length_take,Nat.min_eq_left (by omega)]
theorem o_s4 {n x:Nat} (h:x<18446744073709551616^n):(wordsN (n+1) x).take n=wordsN n x:=by
 have:∀(n x:Nat),(wordsN (n+1) x).take n=wordsN n x:=by
  intro n
  induction n with
  | zero=>intro x;simp [wordsN]
  | succ n ih=>intro x;rw [wordsN,List.take_succ_cons,ih,wordsN]
 exact this n x
theorem o_s5 {ws:List Nat} {k:Nat} {l:List Nat} (h:k≤ws.length):(ovr ws k l).take k=ws.take k:=by
 simp only [ovr]
 rw [List.take_append_of_le_length (by rw [List.length_take];omega),List.take_take,Nat.min_self]
theorem o_s6 {ws:List Nat} {k m:Nat} (h:k<ws.length):wval ((ws.drop k).take (m+1))=ws.getD k 0+18446744073709551616*wval ((ws.drop (k+1)).take m):=by
 rw [List.drop_eq_getElem_cons h,List.take_succ_cons,wval,List.getD_eq_getElem?_getD,List.getElem?_eq_getElem h];rfl
theorem o_s7 {ws:List Nat} {k n x:Nat} (h:k+(n+1)≤ws.length) (hx:x<18446744073709551616^n):wval (((ovr ws k (wordsN (n+1) x)).drop k).take n)=x:=by
 have h1:=o_rm (ws:=ws) (k:=k) (l:=wordsN (n+1) x) (by rw [o_rb];exact h)
 rw [o_rb] at h1
 have h2:((ovr ws k (wordsN (n+1) x)).drop k).take n=(((ovr ws k (wordsN (n+1) x)).drop k).take (n+1)).take n:=by rw [List.take_take,Nat.min_eq_left (by omega)]
 rw [h2,h1,o_s4 hx,o_rd _ _ hx]
theorem o_s8 {k:Nat} {q:List Nat} (v:Nat):(List.replicate (k+1) 0++q).set k v=List.replicate k 0++v::q:=by
 rw [List.replicate_succ',List.append_assoc,List.set_append_right _ _ (by simp)]
 simp
theorem o_s9 {Bw:List Nat} {s:Nat} (hb:wval Bw*2^s<18446744073709551616^Bw.length):wval ((movedL s 0 Bw).take Bw.length)=wval Bw*2^s:=by
 have h1:=o_71 s Bw 0
 have h2:=o_7d (movedL s 0 Bw) Bw.length
 rw [List.take_of_length_le (by rw [o_70];omega),h1,Nat.add_zero] at h2
 rcases Nat.eq_zero_or_pos ((movedL s 0 Bw).getD Bw.length 0) with h | h
 ·rw [h,Nat.mul_zero,Nat.add_zero] at h2;exact h2.symm
 ·exfalso
  have:18446744073709551616^Bw.length*1≤18446744073709551616^Bw.length*(movedL s 0 Bw).getD Bw.length 0:=Nat.mul_le_mul_left _ h
  omega
end
section
open Go.RowKit
theorem o_sa (θ:Nat→Nat) (ws:List Nat):V.rens θ (uW ws)=uW ws:=by
 have h:=o_61 θ (ws.map fun x:Nat=>D.int .u64 x)
 rw [List.map_map] at h
 exact h
theorem o_sb (ws:List Nat):plainL (uW ws):=⟨o_qy 0 ws,fun θ=>o_sa θ ws⟩

theorem o_sc {y g hi lo:Nat} (hy:y<18446744073709551616) (hg:g<18446744073709551616) (h1:hi=y*g/18446744073709551616) (h2:lo=y*g%18446744073709551616):y*g=hi*18446744073709551616+lo∧lo<18446744073709551616∧hi+1<18446744073709551616:=by
 have hp:y*g≤18446744073709551615*18446744073709551615:=Nat.mul_le_mul (by omega) (by omega)
 generalize y*g=p at *
 omega

def takeR (ws d:List Nat) (k g:Nat):List Nat:=wordsN (d.length+1) (wval ((ws.drop k).take (d.length+1))+(if wval ((ws.drop k).take (d.length+1))<g*wval d then 18446744073709551616^(d.length+1) else 0)-g*wval d)
set_option maxHeartbeats 4000000 in
theorem o_sd (ws d:List Nat) (k g:Nat) (hs:small ws) (hd:small d) (hk:k+d.length+1≤ws.length) (hn:ws.length≤1000000) (hg:g<18446744073709551616) :
  Eqn Tryz.prog o_hn [.row 0 k (d.length+1),.d (W d),.d (.int .u64 g)] [⟨136,uW ws⟩] (.d (.int .i64 (if wval ((ws.drop k).take (d.length+1))<g*wval d then 1 else 0))) [⟨136,uW (ovr ws k (takeR ws d k g))⟩]:=by
 refine Eqn.obj1 o_hp Plain.ok (o_sb _) ?_
 obtain ⟨u,hu⟩:∃u,u=(ws.drop k).take (d.length+1):=⟨_,rfl⟩
 have hul:u.length=d.length+1:=by rw [hu];exact o_ro (by omega)
 have hus:small u:=by rw [hu];exact (o_rp hs k).take _
 have hug:∀i,i<d.length+1→u.getD i 0=ws.getD (k+i) 0:=fun i hi=>by rw [hu];exact o_rn hi
 rw [takeR,←hu]
 refine cc (c':=?z92) ?_ ?_
 case refine_1=>cbv<;>exact rfl
 try simp only [W]
 refine G0 ?_;try with_reducible exact tt
 refine AW.loopT (α:=Nat×Nat×Nat×List Nat) 1 (fun s=>[(17,.d (.int .i64 (s.1:Int))),(7,.d (.int .u64 (s.2.1:Int))),(8,.d (.int .u64 (s.2.2.1:Int)))]) (fun s=>[(0,⟨136,uW (ovr ws k s.2.2.2)⟩)]) (fun s=>s.1≤d.length∧s.2.1<18446744073709551616∧s.2.2.1≤1∧s.2.2.2.length=s.1∧small s.2.2.2∧wval s.2.2.2+g*wval (d.take s.1)=wval (u.take s.1)+18446744073709551616^s.1*(s.2.2.1+s.2.1)) (fun s=>d.length-s.1) (0,0,0,[]) ?_ ?_ ⟨Nat.zero_le _,by simp,by simp,rfl,o_rs,by simp [wval]⟩ ?_ ?_ ?_
 ·simp
 ·simp
 ·simp
 ·simp [o_ri,o_qy]
 rintro ⟨i,c,b,l⟩ ⟨hi,hc,hb,hl,hsl,hv⟩
 simp only at hi hc hb hl hsl hv
 simp
 have hol:(uW (ovr ws k l)).length=ws.length:=by rw [o_qv,o_rg (by omega)]
 have hget:=o_qw (ws:=ovr ws k l) (j:=k+i) (by rw [←o_qv,hol];omega)
 have hnx:=o_rj (ws:=ws) (k:=k) (l:=l) (by omega)
 rw [hl] at hnx
 rw [hnx,←hug i (by omega)] at hget
 have hx:=hus.getD i
 have hset:∀v:Nat,(uW (ovr ws k l)).set (k+i) (.d (.int .u64 v))=uW (ovr ws k (l++[v])):=fun v=>by rw [o_qx,←hl,o_rk (by omega)]
 have hki:((k:Int)+i).toNat=k+i:=by omega
 obtain ⟨x,hxd⟩:∃x,x=u.getD i 0:=⟨_,rfl⟩
 rw [←hxd] at hget hx
 by_cases hin:i<d.length
 ·have hin':(i:Int)<d.length:=by omega
  have hy:d[i]<18446744073709551616:=hd _ (List.getElem_mem _)
  have hyd:d[i]=d.getD i 0:=o_la hin
  have e2:IntKind.i64.wrap ((i:Int)+1)=(i:Int)+1:=w64 (by omega) (by omega)
  refine G1 (fs hin hin') ?_;try with_reducible exact tt
  refine AW.cond rfl (fun h=>?_) (fun h=>?_)
  ·clear h
   refine G1 (fs hin hin') ?_;try with_reducible exact tt
   generalize d[i]=y at hy hyd ⊢
   have hmul:=o_qp y g hy hg
   obtain ⟨hi',hhi⟩:∃q,q=y*g/18446744073709551616:=⟨_,rfl⟩
   obtain ⟨lo,hlo⟩:∃q,q=y*g%18446744073709551616:=⟨_,rfl⟩
   rw [←hhi,←hlo] at hmul
   obtain ⟨hyg,hl0,hh0⟩:=o_sc hy hg hhi hlo
   clear hhi hlo
   obtain ⟨l2,k2,hl1,hll2,hk2⟩:∃l2 k2:Nat,lo+c+0=l2+18446744073709551616*k2∧l2<18446744073709551616∧k2≤1:=⟨(lo+c)%18446744073709551616,(lo+c)/18446744073709551616,by omega,by omega,by omega⟩
   obtain ⟨z,nb,hzb,hz,hnb⟩:∃z nb:Nat,x+18446744073709551616*nb=z+l2+b∧z<18446744073709551616∧nb≤1:=by
    by_cases h:l2+b≤x
    ·exact ⟨x-l2-b,0,by omega,by omega,by omega⟩
    ·exact ⟨x+18446744073709551616-l2-b,1,by omega,by omega,by omega⟩
   have w1:IntKind.u64.wrap ((hi':Int)+k2)=((hi'+k2:Nat):Int):=wu64 (by omega) (by omega)
   have hround:=o_rt hv hyg (by omega:lo+c=l2+18446744073709551616*k2) hzb
   have ht:g*wval (d.take (i+1))=g*(wval (d.take i)+18446744073709551616^i*y):=by rw [o_7d,←hyd]
   have hut:wval (u.take (i+1))=wval (u.take i)+18446744073709551616^i*x:=by rw [o_7d,←hxd]
   have hsn:wval (l++[z])=wval l+18446744073709551616^i*z:=by rw [o_rr,hl]
   rw [←hsn,←ht,←hut,←Nat.pow_succ] at hround
   have hhk:hi'+k2<18446744073709551616:=by omega
   refine CallS.pu (hmul) (R1 (fs hol (fs hget hki)) ?_);try with_reducible exact tt
   generalize hi'+k2=hk at *
   refine CallS.pu (o_lg lo c 0 l2 k2 hl0 hc (by omega) hll2 hl1) (R1 (fs w1 (fs hol (fs hget hki))) ?_);try with_reducible exact tt
   refine CallS.pu (o_lh x l2 b z nb hx hll2 hb hz (by omega)) (R1 (fs hol (fs hki (fs hset e2))) ?_);try with_reducible exact tt
   refine ⟨i+1,hk,nb,l++[z],⟨hin,hhk,hnb,by simp [hl],o_rq hsl hz,hround⟩,by omega,by simp,?_⟩
   exact ⟨Subs.refl _,o_qy _ _⟩
  ·simp [hin,hin'] at h
 ·have h2:i=d.length:=by omega
  subst h2
  rw [List.take_length] at hv
  obtain ⟨z,nb,hzb,hz,hnb⟩:∃z nb:Nat,x+18446744073709551616*nb=z+c+b∧z<18446744073709551616∧nb≤1:=by
   by_cases h:c+b≤x
   ·exact ⟨x-c-b,0,by omega,by omega,by omega⟩
   ·exact ⟨x+18446744073709551616-c-b,1,by omega,by omega,by omega⟩
  refine G0 ?_;try with_reducible exact tt
  refine AW.cond rfl (fun h=>?_) (fun h=>?_)
  ·simp at h
  refine AW.exit ?_
  (try (simp -implicitDefEqProofs;try simp (disch:=omega) only [w64,wu64]))
  refine G1 (fs hol (fs hget hki)) ?_;try with_reducible exact tt
  refine CallS.pu (o_lh x c b z nb hx hc hb hz (by omega)) (R1 (fs hol (fs hki hset)) ?_);try with_reducible exact tt
  have hux:wval u=wval (u.take d.length)+18446744073709551616^d.length*x:=by
   rw [hxd,←o_7d,List.take_of_length_le (by omega)]
  obtain ⟨hnb',hR⟩:=o_rv (n:=d.length) (by rw [o_rr,hl]) hv hux hzb hnb (o_rq hsl hz) (by simp [hl]) hus hul
  rw [←hR]
  refine ⟨Sub1.int ?_,Subs.refl _⟩
  rw [hnb']
  split<;>rfl
end
section
open Go.RowKit
set_option maxHeartbeats 4000000 in
theorem o_se (ws d:List Nat) (k:Nat) (hs:small ws) (hd:small d) (hd1:1≤d.length) (hk:k+d.length+1≤ws.length) (hn:ws.length≤1000000) (htop:d.getD (d.length-1) 0≠0) (hU:wval ((ws.drop k).take (d.length+1))<wval d*18446744073709551616) :
  Eqn Tryz.prog o_hh [.row 0 k (d.length+1),.d (W d)] [⟨136,uW ws⟩] (.d (.int .u64 (wval ((ws.drop k).take (d.length+1))/wval d:Nat))) [⟨136,uW (ovr ws k (wordsN (d.length+1) (wval ((ws.drop k).take (d.length+1))%wval d)))⟩]:=by
 refine Eqn.obj1 o_hj Plain.ok (o_sb _) ?_
 have htk:=fun g hg=>o_sd ws d k g hs hd hk hn hg
 obtain ⟨u,hu⟩:∃u,u=(ws.drop k).take (d.length+1):=⟨_,rfl⟩
 have hul:u.length=d.length+1:=by rw [hu];exact o_ro (by omega)
 have hus:small u:=by rw [hu];exact (o_rp hs k).take _
 have hug:∀i,i<d.length+1→u.getD i 0=ws.getD (k+i) 0:=fun i hi=>by rw [hu];exact o_rn hi
 simp only [takeR,←hu] at htk hU ⊢
 obtain ⟨n,hdn⟩:∃n,d.length=n+1:=⟨d.length-1,by omega⟩
 have hgn:=o_qw (ws:=ws) (j:=k+d.length) (by omega)
 have hgm:=o_qw (ws:=ws) (j:=k+n) (by omega)
 rw [←hug _ (by omega)] at hgn hgm
 have hwl:=o_qv ws
 have hx1:=hus.getD d.length
 have hx0:=hus.getD n
 have hdt:d[n]?=some (d.getD n 0):=by rw [List.getD_eq_getElem?_getD,List.getElem?_eq_getElem (by omega)];rfl
 have hdt2:d[n]'(by omega)=d.getD n 0:=o_la (by omega)
 have hdg:=hd.getD n
 rw [hdn,Nat.add_sub_cancel] at htop
 have hUx:wval u/18446744073709551616^n=u.getD d.length 0*18446744073709551616+u.getD n 0:=o_s1 hus (by omega) hdn
 have hDt:d.getD n 0*18446744073709551616^n≤wval d:=o_s0 (by omega)
 generalize u.getD d.length 0=x1 at *
 generalize u.getD n 0=x0 at *
 generalize hdd:d.getD n 0=dt at *
 have hD0:0<wval d:=Nat.lt_of_lt_of_le (Nat.mul_pos (by omega) (Nat.pow_pos (by decide))) hDt
 have ed:IntKind.i64.wrap ((d.length:Int)-1)=(n:Int):=by rw [w64 (by omega) (by omega)];omega
 have hkd:((k:Int)+d.length).toNat=k+d.length:=by omega
 have hnd:(n:Int)<d.length:=by omega
 have hnd':n<d.length:=by omega
 obtain ⟨g,hg,hgD,hgc⟩:∃g:Nat,g≤18446744073709551615∧wval u/wval d≤g∧(if x1<dt then g=(x1*18446744073709551616+x0)/dt else g=18446744073709551615):=by
  by_cases h:x1<dt
  ·refine ⟨(x1*18446744073709551616+x0)/dt,?_,o_nv (B:=18446744073709551616) (by decide) (Nat.pow_pos (by decide)) hUx hDt (by omega),by rw [if_pos h]⟩
   have:(x1*18446744073709551616+x0)/dt<18446744073709551616:=by
    rw [Nat.div_lt_iff_lt_mul (by omega)]
    have:(x1+1)*18446744073709551616≤dt*18446744073709551616:=Nat.mul_le_mul_right _ h
    omega
   omega
  ·refine ⟨18446744073709551615,by omega,?_,by rw [if_neg h]⟩
   have:wval u/wval d<18446744073709551616:=by rw [Nat.div_lt_iff_lt_mul hD0,Nat.mul_comm];exact hU
   omega
 refine cc (c':=?z93) ?_ ?_
 case refine_1=>cbv<;>exact rfl
 try simp only [W] at htk ⊢
 repeat (first | refine AW.seq ?_ | refine AW.block ?_)
 refine AW.reg mix ?_
 (simp -implicitDefEqProofs;try simp (disch:=omega) only [w64,wu64])
 try refine need.of (by first | omega | kernel_rfl) ?_
 repeat (first | refine AW.seq ?_ | refine AW.block ?_)
 refine AW.reg mix ?_
 (simp -implicitDefEqProofs;try simp (disch:=omega) only [w64,wu64])
 try refine need.of (by first | omega | kernel_rfl) ?_
 repeat (first | refine AW.seq ?_ | refine AW.block ?_)
 refine AW.reg mix ?_
 (simp -implicitDefEqProofs;try simp (disch:=omega) only [w64,wu64])
 try refine need.of (by first | omega | kernel_rfl) ?_
 refine AW.cut 1 [(6,.d (.int .u64 g))] [(0,⟨136,uW ws⟩)] (by simp) (by simp) ?_ ?_
 ·by_cases hlt:x1<dt
  ·rw [if_pos hlt] at hgc
   have hlt':(x1:Int)<dt:=by omega
   refine G1 (fs hwl (fs hgn (fs hgm (fs ed (fs hkd (fs hnd (fs hnd' (fs hdt (fs hdt2 (fs hlt hlt')))))))))) ?_;try with_reducible exact tt
   refine AW.cond rfl (fun h=>?_) (fun h=>?_)
   ·have hdiv:=o_qs x1 x0 dt hlt hx0 hdg
    rw [←hgc] at hdiv
    refine G1 (fs hwl (fs hgn (fs hgm (fs ed (fs hkd (fs hnd (fs hnd' hdt))))))) ?_;try with_reducible exact tt
    simp only [hdt2]
    refine CallS.pu (hdiv) (R0 ?_);try with_reducible exact tt
    exact o_qy _ _
   ·simp [hlt,hlt'] at h
  ·rw [if_neg hlt] at hgc
   have hlt':¬(x1:Int)<dt:=by omega
   refine G1 (fs hwl (fs hgn (fs hgm (fs ed (fs hkd (fs hnd (fs hnd' (fs hdt (fs hdt2 (fs hlt hlt')))))))))) ?_;try with_reducible exact tt
   refine AW.cond rfl (fun h=>?_) (fun h=>?_)
   ·simp [hlt,hlt'] at h
   ·refine AW.skip ?_
    subst hgc
    simp [o_qy]
 clear hgc
 have hDn:wval d<18446744073709551616^d.length:=o_6u hd
 have hgM:g*wval d≤wval u+18446744073709551616^(d.length+1):=by
  rw [Nat.pow_succ]
  have:g*wval d≤18446744073709551616*18446744073709551616^d.length:=Nat.mul_le_mul (by omega) (by omega)
  rw [Nat.mul_comm _ 18446744073709551616]
  omega
 obtain ⟨t0,l0,ht0,hl0,hsl0,hv0,hE0⟩:∃(t0:Nat) (l0:List Nat),t0≤1∧l0.length=d.length+1∧small l0∧wval l0+g*wval d=wval u+18446744073709551616^(d.length+1)*t0 ∧
   Eqn Tryz.prog o_hn [.row 0 k (d.length+1),.d (.sl d.length (d.map fun x:Nat=>D.int .u64 x)),.d (.int .u64 g)] [⟨136,uW ws⟩] (.d (.int .i64 t0)) [⟨136,uW (ovr ws k l0)⟩]:=by
  refine ⟨if wval u<g*wval d then 1 else 0,_,by split<;>omega,o_rb _ _,o_rc _ _,o_rw hus hul hgM,?_⟩
  have:=htk g (by omega)
  rw [show ((if wval u<g*wval d then 1 else 0:Nat):Int)=if wval u<g*wval d then 1 else 0 by split<;>rfl]
  exact this
 clear htk hgM
 simp
 refine G0 ?_;try with_reducible exact tt
 refine CallS.o1 0 (hE0) (hO:=o_sb _) (hO':=(o_sb _)) (R0 ?_);try with_reducible exact tt
 refine AW.loopT (α:=Nat×Nat×List Nat) 1 (fun s=>[(7,.d (.int .i64 (s.1:Nat))),(6,.d (.int .u64 (s.2.1:Nat)))]) (fun s=>[(0,⟨136,uW (ovr ws k s.2.2)⟩)]) (fun s=>s.1≤1∧s.2.1≤18446744073709551615∧wval u/wval d≤s.2.1∧s.2.2.length=d.length+1∧small s.2.2∧wval s.2.2+s.2.1*wval d=wval u+18446744073709551616^(d.length+1)*s.1) (fun s=>s.2.1) (t0,g,l0) ?_ ?_ ⟨ht0,hg,hgD,hl0,hsl0,hv0⟩ ?_ ?_ ?_
 ·simp
 ·simp
 ·simp
 ·simp [o_qy]
 clear hE0 hl0 hsl0 hv0 ht0 hg hgD
 rintro ⟨t,g,l⟩ ⟨ht,hg,hgD,hl,hsl,hv⟩
 simp only at ht hg hgD hl hsl hv
 simp
 rcases (by omega:t=0∨t=1) with rfl | rfl
 ·rw [Nat.mul_zero,Nat.add_zero] at hv
  obtain ⟨hq,hr⟩:=o_nx hD0 hgD hv
  have hlw:=o_rf hsl hl hr.symm
  refine G0 ?_;try with_reducible exact tt
  refine AW.cond rfl (fun h=>?_) (fun h=>?_)
  ·simp at h
  refine AW.exit ?_
  (try (simp -implicitDefEqProofs;try simp (disch:=omega) only [w64,wu64]))
  refine G0 ?_;try with_reducible exact tt
  rw [←hlw]
  refine ⟨Sub1.int ?_,Subs.refl _⟩
  rw [←hq];rfl
 ·rw [Nat.mul_one] at hv
  obtain ⟨hg0,hn1,hn2⟩:=o_nw (P:=18446744073709551616^d.length) (by rw [Nat.pow_succ,Nat.mul_comm]) hDn hD0 hg (by rw [←hl];exact o_6u hsl) hv
  have ew:IntKind.u64.wrap ((g:Int)-1)=((g-1:Nat):Int):=by rw [wu64 (by omega) (by omega)];omega
  refine G1 ew ?_;try with_reducible exact tt
  refine AW.cond rfl (fun h=>?_) (fun h=>?_)
  rotate_left
  ·simp at h
  refine G1 ew ?_;try with_reducible exact tt
  have hwlen:(ovr ws k l).length=ws.length:=o_rg (by omega)
  have hlg:∀j,j<d.length+1→(ovr ws k l).getD (k+j) 0=l.getD j 0:=fun j hj=>o_rx (by omega) (by omega)
  have hws1:small (ovr ws k l):=o_rh hs hsl
  have hoo:∀r,r.length=d.length+1→ovr (ovr ws k l) k r=ovr ws k r:=fun r hr=>o_rl (by omega) (by omega)
  refine AW.loopT (α:=Nat×Nat×List Nat) 1 (fun s=>[(53,.d (.int .i64 (s.1:Nat))),(8,.d (.int .u64 (s.2.1:Nat)))]) (fun s=>[(0,⟨136,uW (ovr (ovr ws k l) k s.2.2)⟩)]) (fun s=>s.1≤d.length∧s.2.1≤1∧s.2.2.length=s.1∧small s.2.2∧wval s.2.2+18446744073709551616^s.1*s.2.1=wval (l.take s.1)+wval (d.take s.1)) (fun s=>d.length-s.1) (0,0,[]) ?_ ?_ ⟨Nat.zero_le _,by simp,rfl,o_rs,by simp [wval]⟩ ?_ ?_ ?_
  ·simp
  ·simp
  ·simp
  ·simp [o_qy,o_ri]
  rintro ⟨j,c,r⟩ ⟨hj,hc,hr,hsr,hv2⟩
  simp only at hj hc hr hsr hv2
  simp
  have hol:(uW (ovr (ovr ws k l) k r)).length=ws.length:=by rw [o_qv,o_rg (by omega),hwlen]
  have hget:=o_qw (ws:=ovr (ovr ws k l) k r) (j:=k+j) (by rw [←o_qv,hol];omega)
  have hnx:=o_rj (ws:=ovr ws k l) (k:=k) (l:=r) (by omega)
  rw [hr] at hnx
  rw [hnx,hlg j (by omega)] at hget
  have hx:=hsl.getD j
  have hset:∀v:Nat,(uW (ovr (ovr ws k l) k r)).set (k+j) (.d (.int .u64 v))=uW (ovr (ovr ws k l) k (r++[v])):=fun v=>by rw [o_qx,←hr,o_rk (by omega)]
  have hkj:((k:Int)+j).toNat=k+j:=by omega
  obtain ⟨x,hxd⟩:∃x,x=l.getD j 0:=⟨_,rfl⟩
  rw [←hxd] at hget hx
  by_cases hjn:j<d.length
  ·have hjn':(j:Int)<d.length:=by omega
   have hy:d[j]<18446744073709551616:=hd _ (List.getElem_mem _)
   have hyd:d[j]=d.getD j 0:=o_la hjn
   have e2:IntKind.i64.wrap ((j:Int)+1)=((j+1:Nat):Int):=by rw [w64 (by omega) (by omega)];omega
   refine G1 (fs hjn hjn') ?_;try with_reducible exact tt
   refine AW.cond rfl (fun h=>?_) (fun h=>?_)
   rotate_left
   ·simp [hjn,hjn'] at h
   clear h
   refine G1 (fs hjn (fs hjn' (fs hol (fs hget hkj)))) ?_;try with_reducible exact tt
   generalize d[j]=y at hy hyd ⊢
   obtain ⟨z,nc,hzc,hz,hnc⟩:∃z nc:Nat,x+y+c=z+18446744073709551616*nc∧z<18446744073709551616∧nc≤1:=⟨(x+y+c)%18446744073709551616,(x+y+c)/18446744073709551616,by omega,by omega,by omega⟩
   have hround:=o_ry hv2 hzc
   rw [show wval r+18446744073709551616^j*z=wval (r++[z]) by rw [o_rr,hr],show wval (l.take j)+18446744073709551616^j*x=wval (l.take (j+1)) by rw [o_7d,←hxd],show wval (d.take j)+18446744073709551616^j*y=wval (d.take (j+1)) by rw [o_7d,←hyd],←Nat.pow_succ] at hround
   refine CallS.pu (o_lg x y c z nc hx hy hc hz hzc) (R1 (fs hol (fs hkj (fs hset e2))) ?_);try with_reducible exact tt
   exact ⟨j+1,nc,r++[z],⟨hjn,hnc,by simp [hr],o_rq hsr hz,hround⟩,by omega,by simp,Subs.refl _,o_qy _ _⟩
  ·have h2:j=d.length:=by omega
   subst h2
   rw [List.take_length] at hv2
   have hlx:wval l=wval (l.take d.length)+18446744073709551616^d.length*x:=by rw [hxd,←o_7d,List.take_of_length_le (by omega)]
   obtain ⟨v,nv,hvc,hvl,hnv⟩:∃v nv:Nat,x+c=v+18446744073709551616*nv∧v<18446744073709551616∧nv≤1:=⟨(x+c)%18446744073709551616,(x+c)/18446744073709551616,by omega,by omega,by omega⟩
   have wv:IntKind.u64.wrap ((x:Int)+c)=(v:Int):=by rw [IntKind.wrap_u64];omega
   have hrv:(r++[v]).length=d.length+1:=by simp [hr]
   have hsum:=o_rz (p:=18446744073709551616^d.length) (wr:=wval r) (c:=c) (x:=x) hv2 hlx hvc
   rw [show wval r+18446744073709551616^d.length*v=wval (r++[v]) by rw [o_rr,hr],←Nat.pow_succ] at hsum
   have hrlt:=o_6u (o_rq hsr hvl)
   rw [hrv] at hrlt
   replace hset:=hset v
   rw [hoo _ hrv] at hset
   have hget2:=o_qw (ws:=ovr ws k (r++[v])) (j:=k+d.length) (by rw [o_rg (by omega)];omega)
   rw [o_rx (by omega) (by omega),show (r++[v]).getD d.length 0=v by rw [←hr];simp] at hget2
   refine G0 ?_;try with_reducible exact tt
   refine AW.cond rfl (fun h=>?_) (fun h=>?_)
   ·simp at h
   refine AW.exit ?_
   (try (simp -implicitDefEqProofs;try simp (disch:=omega) only [w64,wu64]))
   have hol2:(uW (ovr ws k (r++[v]))).length=ws.length:=by rw [o_qv,o_rg (by omega)]
   have hsr2:=o_rq hsr hvl
   generalize hr2:r++[v]=r2 at *
   have hrw:wval r<18446744073709551616^d.length:=by rw [←hr];exact o_6u hsr
   have hrw2:wval r2=wval r+18446744073709551616^d.length*v:=by rw [←hr2,o_rr,hr]
   by_cases hv0:v=0
   ·subst hv0
    have hnv1:nv=1:=by
     rcases (by omega:nv=0∨nv=1) with rfl | h
     ·exfalso
      rw [Nat.mul_zero,Nat.add_zero] at hsum
      rw [Nat.mul_zero,Nat.add_zero] at hrw2
      have:=(hn2 (by omega)).2
      omega
     ·exact h
    subst hnv1
    rw [Nat.mul_one] at hsum
    obtain ⟨k1,k2,k3,-⟩:=hn1 (by omega)
    simp at hset hget2 wv
    refine G1 (fs hol (fs hget (fs hkj (fs wv (fs hset (fs hget2 hol2)))))) ?_;try with_reducible exact tt
    refine AW.cond rfl (fun h=>?_) (fun h=>?_)
    ·simp at h
    repeat (first | refine AW.seq ?_ | refine AW.block ?_ | (refine AW.reg mix ?_;simp -implicitDefEqProofs;try simp (disch:=omega) only [w64,wu64]) | (refine need.of (by first | omega | kernel_rfl) ?_) | (refine AW.fin ?_;try simp -implicitDefEqProofs))
    (try (simp -implicitDefEqProofs;try simp (disch:=omega) only [w64,wu64]))
    repeat (first | refine AW.seq ?_ | refine AW.block ?_ | (refine AW.reg mix ?_;simp -implicitDefEqProofs;try simp (disch:=omega) only [w64,wu64]) | (refine need.of (by first | omega | kernel_rfl) ?_) | (refine AW.fin ?_;try simp -implicitDefEqProofs))
    refine ⟨0,g-1,r2,⟨by omega,by omega,by omega,hrv,hsr2,?_⟩,by omega,by simp,?_⟩
    ·rw [Nat.mul_zero,Nat.add_zero,←k1];omega
    ·exact ⟨Subs.refl _,o_qy _ _⟩
   ·have hnv0:nv=0:=by omega
    subst hnv0
    rw [Nat.mul_zero,Nat.add_zero] at hsum
    obtain ⟨k1,k2⟩:=hn2 (by omega)
    refine G1 (fs hol (fs hget (fs hkj (fs wv (fs hset (fs hget2 (fs hol2 hv0))))))) ?_;try with_reducible exact tt
    refine AW.cond rfl (fun h=>?_) (fun h=>?_)
    rotate_left
    ·simp [hv0] at h
    repeat (first | refine AW.seq ?_ | refine AW.block ?_ | (refine AW.reg mix ?_;simp -implicitDefEqProofs;try simp (disch:=omega) only [w64,wu64]) | (refine need.of (by first | omega | kernel_rfl) ?_) | (refine AW.fin ?_;try simp -implicitDefEqProofs))
    (try (simp -implicitDefEqProofs;try simp (disch:=omega) only [w64,wu64]))
    repeat (first | refine AW.seq ?_ | refine AW.block ?_ | (refine AW.reg mix ?_;simp -implicitDefEqProofs;try simp (disch:=omega) only [w64,wu64]) | (refine need.of (by first | omega | kernel_rfl) ?_) | (refine AW.fin ?_;try simp -implicitDefEqProofs))
    refine ⟨1,g-1,r2,⟨by omega,by omega,?_,hrv,hsr2,?_⟩,by omega,by simp,?_⟩
    ·exact Nat.div_le_of_le_mul (by rw [Nat.mul_comm];omega)
    ·omega
    ·exact ⟨Subs.refl _,o_qy _ _⟩
end
section
open Go.RowKit
set_option maxHeartbeats 1000000 in
theorem o_sf (A:List Nat) (k:Nat) (hk:k<64) (hs:small A) (hn:A.length≤1000000):Eqn Tryz.prog o_he [.d (W A),.d (.int .i64 k)] [] (.own 0 1 (A.length+1)) [⟨136,uW (movedL k 0 A)⟩]:=by
 refine Eqn.gen [0] o_hg (by simp) (by simp) (by rfl) (by decide) (by simp) (by simp [o_qy]) ?_
 refine cc (c':=?z94) ?_ ?_
 case refine_1=>cbv<;>exact rfl
 try simp only [W]
 refine G0 ?_;try with_reducible exact tt
 rw [show List.replicate (A.length+1) (V.d (.int .u64 0))=cellM k A 0 by rw [cellM,o_lz];simp [U]]
 have hlow:∀i,V.lowl 1 (cellM k A i)=true:=fun i=>o_m3 1 _
 refine AW.loopT (α:=Nat) 1 (fun i=>[(14,.d (.int .i64 (i:Int)))]) (fun i=>[(0,⟨136,cellM k A i⟩)]) (fun i=>i≤A.length) (fun i=>A.length-i) 0 ?_ ?_ (Nat.zero_le _) ?_ ?_ ?_
 ·simp
 ·simp
 ·simp
 ·simp [hlow]
 rintro i hi
 simp
 by_cases h:i=A.length
 ·subst h
  refine G0 ?_;try with_reducible exact tt
  refine AW.cond rfl (fun h=>?_) (fun h=>?_)
  ·simp at h
  refine AW.exit ?_
  (try (simp -implicitDefEqProofs;try simp (disch:=omega) only [w64,wu64]))
  rw [cellM,o_m0]
  repeat (first | refine AW.seq ?_ | refine AW.block ?_ | (refine AW.reg mix ?_;simp -implicitDefEqProofs [uW];try simp (disch:=omega) only [w64,wu64]) | (refine need.of (by first | omega | kernel_rfl) ?_) | (refine AW.fin ?_;try simp -implicitDefEqProofs [uW]))
  rw [show U (movedL k 0 A)=uW (movedL k 0 A) from rfl,o_sa]
  exact Subs.refl _
 ·have hi':i<A.length:=by omega
  have hp:(i:Int)<A.length:=by omega
  obtain ⟨c,y,u,hl,hq,hor,hw,hd,hset⟩:∃c z u:Nat,(cellM k A i).length=A.length+1∧(cellM k A i)[i]?=some (.d (.int .u64 c))∧bits BinOp.or IntKind.u64 (c:Int) (IntKind.u64.wrap ((A[i]:Int)*2^k))=(z:Int) ∧
    True∧(A[i]:Int)/2^(64-k)=(u:Int)∧((cellM k A i).set i (.d (.int .u64 z))).set (i+1) (.d (.int .u64 u))=cellM k A (i+1):=by
   have hl:=o_ly k A i hi
   have hc:=o_78 (k:=k) (l:=A.take i) (c:=0) (hs.take i) (Nat.two_pow_pos k)
   have hset:=o_m2 k A i hi'
   rw [←o_la hi'] at hset
   refine ⟨movedC k 0 (A.take i),A[i]*2^k%18446744073709551616+movedC k 0 (A.take i),A[i]*2^k/18446744073709551616,by simp [cellM,U,hl],?_,?_,trivial,?_,?_⟩
   ·have:=o_m1 k A i hi'
    rw [List.getD,List.getElem?_eq_getElem (by omega)] at this
    rw [cellM,U,List.getElem?_map,List.getElem?_eq_getElem (by omega)]
    simp at this
    simp [this]
   ·rw [show IntKind.u64.wrap ((A[i]:Int)*2^k)=((A[i]*2^k%18446744073709551616:Nat):Int) by rw [IntKind.wrap_u64,Int.natCast_emod,Int.natCast_mul,Int.natCast_pow];rfl]
    rw [bits_or_u64_nat _ _ (Nat.lt_of_lt_of_le hc (by rw [show (18446744073709551616:Nat)=2^64 by rfl];exact Nat.pow_le_pow_right (by decide) (by omega))) (Nat.mod_lt _ (by decide)),o_79 hk hc]
   ·rw [o_7a (by omega),Int.natCast_ediv,Int.natCast_pow];rfl
   ·rw [cellM,cellM,←hset,U,U,List.map_set,List.map_set]
  have hn:((64:Int)-k).toNat=64-k:=by omega
  have e1:IntKind.i64.wrap ((i:Int)+1)=(i:Int)+1:=w64 (by omega) (by omega)
  have e2:IntKind.i64.wrap ((64:Int)-k)=(64:Int)-k:=w64 (by omega) (by omega)
  generalize cellM k A i=cm at hl hq hset
  refine G1 (fs hi' hp) ?_;try with_reducible exact tt
  refine AW.cond rfl (fun h=>?_) (fun h=>?_)
  ·clear h
   refine G1 (fs hi' (fs hp (fs hl (fs hq (fs hor (fs e1 (fs e2 (fs hn (fs hd hset))))))))) ?_;try with_reducible exact tt
   exact ⟨i+1,by omega,by omega,by simp [wk],by simp [wkH,hlow]⟩
  ·simp at h

theorem o_sg (n s:Nat) (ds:List D) (ws:List Nat):V.frzs n s ds (uW ws)=uW ws:=by
 rw [o_59,uW,U,List.map_map];rfl
theorem uW_d (ws:List Nat):uW ws=(ws.map fun x:Nat=>D.int .u64 x).map V.d:=by rw [List.map_map];rfl

set_option maxHeartbeats 4000000 in
theorem o_sh (a b:Nat) (hb:18446744073709551616≤b) (hab:b≤a) (ha:size a≤900000):Eqn Tryz.prog o_gn [.d (.agg [natW a]),.d (.agg [natW b])] [] (.tup [.d (.agg [natW (a/b)]),.d (.agg [natW (a%b)]),.d (.int .i64 0)]) []:=by
 refine Eqn.pure o_gp Plain.ok ?_
 have hba:=o_lw hab
 unfold size at ha hba
 have hsA:=o_l4 a
 have hsB:=o_l4 b
 have htB:=o_l5 b
 have hvA:=o_l3 a
 have hvB:=o_l3 b
 have hB2:2≤(words b).length:=by
  rcases Nat.lt_or_ge (words b).length 2 with h | h
  ·exfalso
   have:=o_6u hsB
   rw [hvB] at this
   have h2:18446744073709551616^(words b).length≤18446744073709551616^1:=Nat.pow_le_pow_right (by decide) (by omega)
   omega
  ·exact h
 refine cc (c':=?z95) ?_ ?_
 case refine_1=>cbv<;>exact rfl
 try simp only [natW,W]
 generalize words a=A at *
 generalize words b=Bw at *
 obtain ⟨n,hn⟩:∃n,Bw.length=n+1:=⟨Bw.length-1,by omega⟩
 have htop:=htB n hn
 have htl:=hsB.getD n
 have hget:Bw[n]'(by omega)=Bw.getD n 0:=o_la (by omega)
 have hlead:=o_o4 (Bw.getD n 0) htl
 have e1:IntKind.i64.wrap ((Bw.length:Int)-1)=(n:Int):=by rw [w64 (by omega) (by omega)];omega
 have hnB:n<Bw.length:=by omega
 have hnB':(n:Int)<Bw.length:=by omega
 generalize Bw.getD n 0=top at *
 obtain ⟨s,hs⟩:∃s,s=64-bitsN top:=⟨_,rfl⟩
 rw [←hs] at hlead
 have hs64:s<64:=by have:=(o_nn (n:=top) (by omega)).2;omega
 have hmB:=o_m4 Bw s hs64 hsB (by omega)
 have hmA:=o_sf A s hs64 hsA (by omega)
 simp only [W,o_70] at hmB
 refine G1 (fs e1 (fs hnB (fs hnB' hget))) ?_;try with_reducible exact tt
 refine CallS.pu (hlead) (R1 (fs e1 (fs hnB (fs hnB' hget))) ?_);try with_reducible exact tt
 refine CallS.pu (hmB) (R1 (fs e1 (fs hnB (fs hnB' hget))) ?_);try with_reducible exact tt
 have hlm:(A.length:Int)+1-Bw.length=((A.length-n:Nat):Int):=by omega
 have hlm2:IntKind.i64.wrap ((A.length:Int)+1-Bw.length)=((A.length-n:Nat):Int):=by rw [w64 (by omega) (by omega),hlm]
 have hlm3:IntKind.i64.wrap (((A.length-n:Nat):Int)-1)=((A.length-n:Nat):Int)-1:=w64 (by omega) (by omega)
 refine CallS.nX (hmA) (hO':=(o_sb _)) (R1 (fs e1 (fs hnB (fs hnB' (fs hget (fs hlm2 hlm3))))) ?_);try with_reducible exact tt
 have hnA:n+1≤A.length:=by omega
 have hbn:18446744073709551616^n≤wval Bw:=by
  have h1:=o_s0 (d:=Bw) (n:=n) hnB
  rw [o_la hnB] at hget
  rw [hget] at h1
  have:1*18446744073709551616^n≤top*18446744073709551616^n:=Nat.mul_le_mul_right _ (by omega)
  omega
 have hD2:wval Bw*2^s<18446744073709551616^Bw.length:=by
  have h1:=o_7d Bw n
  rw [List.take_of_length_le (by omega)] at h1
  rw [o_la hnB] at hget
  rw [hget] at h1
  have h2:=o_7m hsB n
  have h3:top<2^bitsN top:=o_nk top
  have h4:wval Bw<2^bitsN top*18446744073709551616^n:=by
   have:(top+1)*18446744073709551616^n≤2^bitsN top*18446744073709551616^n:=Nat.mul_le_mul_right _ h3
   rw [Nat.add_mul,Nat.one_mul,Nat.mul_comm top] at this
   omega
  have h5:wval Bw*2^s<2^bitsN top*18446744073709551616^n*2^s:=Nat.mul_lt_mul_of_pos_right h4 (Nat.two_pow_pos s)
  have h6:2^bitsN top*18446744073709551616^n*2^s=18446744073709551616^Bw.length:=by
   have hb64:bitsN top≤64:=o_nl htl
   rw [Nat.mul_right_comm,←Nat.pow_add,show bitsN top+s=64 by omega,hn,Nat.pow_succ,Nat.mul_comm]
   rfl
  omega
 have hDv:=o_s9 hD2
 have hsd:small ((movedL s 0 Bw).take Bw.length):=(o_72 hs64 hsB (Nat.two_pow_pos s)).take _
 have hdl:((movedL s 0 Bw).take Bw.length).length=n+1:=by rw [List.length_take,o_70];omega
 have hU0:=o_71 s A 0
 have hsU:small (movedL s 0 A):=o_72 hs64 hsA (Nat.two_pow_pos s)
 have hlU:=o_70 s A 0
 rw [Nat.add_zero] at hU0
 have hp2:=Nat.two_pow_pos s
 have hD0:18446744073709551616^n*2^s≤wval Bw*2^s:=Nat.mul_le_mul_right _ hbn
 have hDpos:0<wval Bw*2^s:=Nat.lt_of_lt_of_le (Nat.mul_pos (Nat.pow_pos (by decide)) hp2) hD0
 simp only [←List.map_take]
 generalize hdd:(movedL s 0 Bw).take Bw.length=d at *
 generalize hUU:movedL s 0 A=u0 at *
 have hdtop:d.getD (d.length-1) 0≠0:=by
  intro h0
  have h1:=o_7d d n
  have he:d.take (n+1)=d:=List.take_of_length_le (by omega)
  rw [he] at h1
  rw [hdl,Nat.add_sub_cancel] at h0
  rw [h0,Nat.mul_zero,Nat.add_zero] at h1
  have h2:=o_7m hsd n
  have h3:18446744073709551616^n*1≤18446744073709551616^n*2^s:=Nat.mul_le_mul_left _ hp2
  omega
 generalize hm:A.length-n=m at *
 have hstart:wval ((u0.drop m).take (n+1))<wval d:=by
  have h1:=o_s3 (ws:=u0) m (n+1) (by omega)
  rw [List.take_of_length_le (by omega),hU0] at h1
  have h2:=o_6u hsA
  have h3:wval A*2^s<18446744073709551616^A.length*2^s:=Nat.mul_lt_mul_of_pos_right h2 hp2
  rw [hDv]
  refine Nat.lt_of_lt_of_le ?_ hD0
  have h4:18446744073709551616^A.length=18446744073709551616^m*18446744073709551616^n:=by rw [←Nat.pow_add];congr 1;omega
  rw [h4,Nat.mul_assoc] at h3
  have h5:18446744073709551616^m*wval ((u0.drop m).take (n+1))<18446744073709551616^m*(18446744073709551616^n*2^s):=by omega
  exact Nat.lt_of_mul_lt_mul_left h5
 have hdlt:wval d<18446744073709551616^(n+1):=by rw [←hdl];exact o_6u hsd
 have htkall:u0.take (m+(n+1))=u0:=List.take_of_length_le (by omega)
 have hdB:d.length=Bw.length:=by omega
 rw [show List.replicate m (V.d (.int .u64 0))=uW (List.replicate m 0++[]) by simp [uW,U]]
 refine AW.loopT (α:=Nat×List Nat×List Nat) 6 (fun s=>[(12,.d (.int .i64 ((s.1:Int)-1)))]) (fun s=>[(4,⟨136,uW s.2.1⟩),(5,⟨136,uW (List.replicate s.1 0++s.2.2)⟩)]) (fun s=>s.1≤m∧s.2.1.length=A.length+1∧small s.2.1∧s.2.2.length=m-s.1∧small s.2.2∧wval u0=wval (s.2.1.take (s.1+(n+1)))+wval d*(18446744073709551616^s.1*wval s.2.2)∧wval ((s.2.1.drop s.1).take (n+1))<wval d) (fun s=>s.1) (m,u0,[]) ?_ ?_ ⟨Nat.le_refl _,hlU,hsU,by simp,o_rs,by rw [htkall];simp [wval],hstart⟩ ?_ ?_ ?_
 ·simp
 ·simp
 ·simp
 ·simp [o_qy]
 clear hstart hsU hlU
 rintro ⟨kk,ws,q⟩ ⟨hkm,hwl,hws,hql,hsq,hv,hlt⟩
 simp only at hkm hwl hws hql hsq hv hlt
 simp
 cases kk with
 | zero =>
  refine G0 ?_;try with_reducible exact tt
  refine AW.cond rfl (fun h=>?_) (fun h=>?_)
  ·simp at h
  refine AW.exit ?_
  (try (simp -implicitDefEqProofs;try simp (disch:=omega) only [w64,wu64]))
  rw [Nat.zero_add,Nat.pow_zero,Nat.one_mul] at hv
  rw [List.drop_zero] at hlt
  rw [Nat.sub_zero] at hql
  have hdp:0<wval d:=by omega
  have hqv:wval q=wval u0/wval d:=by rw [hv,Nat.add_mul_div_left _ _ hdp,Nat.div_eq_of_lt hlt,Nat.zero_add]
  have hrv:wval (ws.take (n+1))=wval u0%wval d:=by rw [hv,Nat.add_mul_mod_self_left,Nat.mod_eq_of_lt hlt]
  obtain ⟨k1,k2⟩:=o_nu (n:=wval A) (y:=wval Bw) (s:=s)
  rw [hU0,hDv] at hqv hrv
  rw [k1] at hqv
  have ht1:=o_lb q hsq (by omega)
  have ht2:=o_lb (ws.take (n+1)) (hws.take _) (by rw [List.length_take];omega)
  have hl2:(ws.take (n+1)).length=n+1:=by rw [List.length_take];omega
  have hsz:size (wval (ws.take (n+1)))≤1000000:=Nat.le_trans (o_7b (o_l5 _) (m:=n+1) (by rw [o_l3];have:=o_6u (hws.take (n+1));rw [hl2] at this;exact this)) (by omega)
  have ht3:=o_oe (wval (ws.take (n+1))) s hsz (by omega)
  rw [hrv,k2,←hrv] at ht3
  rw [hqv] at ht1
  simp only [natW,W,hql,hl2] at ht1 ht2 ht3
  refine AW.freeze 4 1 ⟨136,uW ws⟩ (ws.map fun x:Nat=>D.int .u64 x) (by rfl) (uW_d ws) ?_
  simp [o_sg]
  refine AW.freeze 5 1 ⟨136,uW q⟩ (q.map fun x:Nat=>D.int .u64 x) (by rfl) (uW_d q) ?_
  have hqt:q.take m=q:=List.take_of_length_le (by omega)
  have hwt:ws.take (A.length+1)=ws:=List.take_of_length_le (by omega)
  have hnAl:(Bw.length:Int)≤(A.length:Int)+1:=by omega
  simp [o_sg,←List.map_take,hqt,hwt]
  refine G1 hnAl ?_;try with_reducible exact tt
  refine CallS.pu (ht1) (R1 hnAl ?_);try with_reducible exact tt
  rw [←List.map_take,hn]
  refine CallS.pu (ht2) (R0 ?_);try with_reducible exact tt
  refine CallS.pu (ht3) (R0 ?_);try with_reducible exact tt
  rw [hvA,hvB]
  exact Sub1.refl _
 | succ k =>
  have hg0:(0:Int)≤k:=by omega
  refine G1 hg0 ?_;try with_reducible exact tt
  refine AW.cond rfl (fun h=>?_) (fun h=>?_)
  rotate_left
  ·simp at h
  have w1:IntKind.i64.wrap ((k:Int)+Bw.length)=(k:Int)+Bw.length:=w64 (by omega) (by omega)
  have w2:IntKind.i64.wrap ((k:Int)+Bw.length+1)=(k:Int)+Bw.length+1:=w64 (by omega) (by omega)
  have w3:((k:Int)+Bw.length+1).toNat-k=Bw.length+1:=by omega
  have w4:IntKind.i64.wrap ((k:Int)-1)=(k:Int)-1:=w64 (by omega) (by omega)
  have hc1:(k:Int)≤(k:Int)+Bw.length+1:=by omega
  have hc2:(k:Int)+Bw.length+1≤(A.length:Int)+1:=by omega
  have hseg:=o_s6 (ws:=ws) (k:=k) (m:=n+1) (by omega)
  have hxk:=hws.getD k
  have hS:wval ((ws.drop k).take (d.length+1))<wval d*18446744073709551616:=by
   rw [hdl,hseg];omega
  have hdig:=o_se ws d k hws hsd (by omega) (by omega) (by omega) hdtop hS
  simp only [W] at hdig
  rw [hdB] at hdig hS
  obtain ⟨S,hSd⟩:∃S,S=wval ((ws.drop k).take (Bw.length+1)):=⟨_,rfl⟩
  have hvs:=o_s3 (ws:=ws) k (Bw.length+1) (by omega)
  rw [←hSd] at hdig hS hvs
  rw [show k+1+(n+1)=k+(Bw.length+1) by omega] at hv
  have hround:=o_s2 (Bk:=18446744073709551616^k) (S:=S) (Q:=wval q) (D:=wval d) (W1:=wval (ws.take k)) (U0:=wval u0) (BQ:=18446744073709551616^(k+1)*wval q) (by rw [hv,←hvs]) (by rw [Nat.pow_succ])
  have hdp:0<wval d:=by omega
  have hmodl:S%wval d<wval d:=Nat.mod_lt _ hdp
  have hlow:=o_s7 (ws:=ws) (k:=k) (n:=Bw.length) (x:=S%wval d) (by omega) (by rw [hn];exact Nat.lt_trans hmodl hdlt)
  have hwn:=o_rb (Bw.length+1) (S%wval d)
  have hwlen:(ovr ws k (wordsN (Bw.length+1) (S%wval d))).length=ws.length:=o_rg (by omega)
  have hsm:=o_rh (k:=k) hws (o_rc (Bw.length+1) (S%wval d))
  have hseg2:=o_s3 (ws:=ovr ws k (wordsN (Bw.length+1) (S%wval d))) k Bw.length (by omega)
  rw [o_s5 (by omega),hlow] at hseg2
  have hqd:S/wval d<18446744073709551616:=by rw [Nat.div_lt_iff_lt_mul hdp,Nat.mul_comm];exact hS
  have hset:(uW (List.replicate (k+1) 0++q)).set k (.d (.int .u64 (S/wval d:Nat)))=uW (List.replicate k 0++(S/wval d)::q):=by rw [o_qx,o_s8]
  have hol:(uW (List.replicate (k+1) 0++q)).length=m:=by rw [o_qv];simp;omega
  generalize ovr ws k (wordsN (Bw.length+1) (S%wval d))=ws' at *
  generalize S/wval d=q0 at *
  refine G1 (fs w1 (fs w2 (fs w3 (fs hg0 (fs hc1 hc2))))) ?_;try with_reducible exact tt
  refine CallS.o1 4 (hdig) (hO:=o_sb _) (hO':=(o_sb _)) (R1 (fs hol (fs hset w4)) ?_);try with_reducible exact tt
  refine ⟨k,ws',q0::q,⟨by omega,by omega,hsm,by simp [hql];omega,fun y hy=>?_,?_,?_⟩,by omega,by simp,⟨Subs.refl _,o_qy _ _⟩,Subs.refl _,o_qy _ _⟩
  ·rcases List.mem_cons.1 hy with rfl | hy
   ·exact hqd
   ·exact hsq y hy
  ·rw [←hn,hseg2];exact hround
  ·rw [←hn,hlow];exact hmodl
end
section
open Go.RowKit
theorem o_si (a b:Nat) (ha:size a≤900000) (h0:0<b) (hbs:size b≤900000):Eqn Tryz.prog o_en [.d (.agg [natW a]),.d (.agg [natW b])] [] (.tup [.d (.agg [natW (a/b)]),.d (.agg [natW (a%b)]),.d (.int .i64 0)]) []:=by
 by_cases hsm:b<18446744073709551616∨a<b
 ·exact o_r6 a b (by omega) h0 hsm (by omega)
 ·have hb1:18446744073709551616≤b:=by omega
  have hab:b≤a:=by omega
  refine Eqn.pure o_ep (o_ls _ _ _) ?_
  have hlong:=o_sh a b hb1 hab ha
  have hz:(b==0)=false:=by simp;omega
  have hsz:2≤(words b).length:=by
   rcases Nat.lt_or_ge (words b).length 2 with h | h
   ·exfalso
    have:=o_6u (o_l4 b)
    rw [o_l3] at this
    have h2:18446744073709551616^(words b).length≤18446744073709551616^1:=Nat.pow_le_pow_right (by decide) (by omega)
    omega
   ·exact h
  obtain ⟨bn,bl,e',hbn⟩:∃bn bl,natW b = .sl bn bl∧bn≠1:=⟨_,_,rfl,by omega⟩
  have hbn':¬(bn:Int)=1:=by omega
  have hcz:¬cmpZ a b<0:=by rw [o_m8];omega
  refine cc (c':=?z96) ?_ ?_
  case refine_1=>cbv<;>exact rfl
  refine G0 ?_;try with_reducible exact tt
  refine CallS.pu (o_ld b) (R0 ?_);try with_reducible exact tt
  refine AW.cond rfl (fun h=>?_) (fun h=>?_)
  ·simp [hz] at h
  refine G0 ?_;try with_reducible exact tt
  refine CallS.pu (o_lf a b (by omega) (by omega)) (R1 hcz ?_);try with_reducible exact tt
  refine AW.cond rfl (fun h=>?_) (fun h=>?_)
  ·simp [hcz] at h
  rw [e'] at hlong
  refine G1 (fs e' (fs hbn hbn')) ?_;try with_reducible exact tt
  refine AW.cond rfl (fun h=>?_) (fun h=>?_)
  ·simp [hbn,hbn'] at h
  ·refine G0 ?_;try with_reducible exact tt
   refine CallS.pu (hlong) (R0 ?_);try with_reducible exact tt

theorem o_sj (a b:Nat) (ha:size a≤900000) (hb:size b≤900000):Eqn Tryz.prog o_ek [.d (.agg [natW a]),.d (.agg [natW b])] [] (.d (.agg [natW (Nat.gcd a b)])) []:=by
 refine Eqn.pure o_em (o_5e _) ?_
 refine cc (c':=?z97) ?_ ?_
 case refine_1=>cbv<;>exact rfl
 refine G0 ?_;try with_reducible exact tt
 refine AW.loopT (α:=Nat×Nat) 3 (fun _=>[]) (fun p=>[(0,⟨47,[.d (natW p.1)]⟩),(1,⟨47,[.d (natW p.2)]⟩)]) (fun p=>size p.1≤900000∧size p.2≤900000∧Nat.gcd p.1 p.2=Nat.gcd a b) (fun p=>p.2) (a,b) ?_ ?_ ⟨ha,hb,rfl⟩ ?_ ?_ ?_
 ·simp
 ·simp
 ·simp
 ·simp
 rintro ⟨x,y⟩ ⟨hx,hy,hg⟩
 simp only at hx hy hg
 simp
 refine G0 ?_;try with_reducible exact tt
 refine CallS.pu (o_ld y) (R0 ?_);try with_reducible exact tt
 by_cases h0:y=0
 ·subst h0
  rw [Nat.gcd_zero_right] at hg
  subst hg
  refine AW.cond rfl (fun h=>?_) (fun h=>?_)
  ·simp at h
  refine AW.exit ?_
  (try (simp -implicitDefEqProofs;try simp (disch:=omega) only [w64,wu64]))
  refine G0 ?_;try with_reducible exact tt
  refine CallS.pu (o_lc (words (Nat.gcd a b)) (o_l4 _) (by unfold size at hx;omega)) (R0 ?_);try with_reducible exact tt
  refine Sub1.of ?_
  rw [o_l3]
 ·have hy0:0<y:=by omega
  refine AW.cond rfl (fun h=>?_) (fun h=>?_)
  ·refine G0 ?_;try with_reducible exact tt
   refine CallS.pu (o_si x y hx hy0 hy) (R0 ?_);try with_reducible exact tt
   refine ⟨y,x%y,⟨hy,Nat.le_trans (o_lw (Nat.mod_le x y)) hx,?_⟩,Nat.mod_lt _ hy0,Subs.refl _,?_⟩
   ·rw [←hg,Nat.gcd_comm x y,Nat.gcd_rec y x,Nat.gcd_comm]
   ·exact Subs.refl _
  ·simp at h
   exact absurd h h0
end
section
open Go.RowKit
def wD (z:Int):D:=.agg [natW z.natAbs,.bool (decide (z<0))]
def rD (q:Rat):D:=.agg [natW q.num.natAbs,.bool (decide (q.num<0)),natW (q.den-1)]

theorem o_sk (a b:Nat):size (a*b)≤size a+size b:=by
 refine o_7b (o_l5 _) ?_
 rw [o_l3,Nat.pow_add]
 have ha:=o_6u (o_l4 a)
 have hb:=o_6u (o_l4 b)
 rw [o_l3] at ha hb
 unfold size
 exact Nat.mul_lt_mul'' ha hb
theorem o_sl (a b:Nat):size (a+b)≤max (size a) (size b)+1:=by
 refine o_7b (o_l5 _) ?_
 rw [o_l3,Nat.pow_succ]
 have ha:=o_6u (o_l4 a)
 have hb:=o_6u (o_l4 b)
 rw [o_l3] at ha hb
 have h1:18446744073709551616^(words a).length≤18446744073709551616^max (size a) (size b):=Nat.pow_le_pow_right (by decide) (Nat.le_max_left _ _)
 have h2:18446744073709551616^(words b).length≤18446744073709551616^max (size a) (size b):=Nat.pow_le_pow_right (by decide) (Nat.le_max_right _ _)
 omega

theorem o_sm (m n:Nat) (hm:size m≤1000000) (hn:size n≤1000000) (hlt:m<n):Eqn Tryz.prog o_eq [.d (.agg [natW m]),.d (.agg [natW n])] [] (.tup [.d (.agg [.nilsl]),.d (.int .i64 2)]) []:=by
 refine Eqn.pure o_es Plain.ok ?_
 have hc:=o_lf m n hm hn
 have hlt':cmpZ m n<0:=o_m8.2 hlt
 refine cc (c':=?z98) ?_ ?_
 case refine_1=>cbv<;>exact rfl
 refine G0 ?_;try with_reducible exact tt
 refine CallS.pu (hc) (R1 hlt' ?_);try with_reducible exact tt
 refine AW.cond rfl (fun h=>?_) (fun h=>?_)
 ·refine G0 ?_;try with_reducible exact tt
 ·simp [hlt'] at h

theorem o_sn (s:Bool) (a:Nat):Eqn Tryz.prog o_e2 [.d (.bool s),.d (.agg [natW a])] [] (.d (.agg [natW a,.bool (s&&decide (a≠0))])) []:=by
 refine Eqn.pure o_e4 Plain.ok ?_
 have hz:=o_ld a
 refine cc (c':=?z99) ?_ ?_
 case refine_1=>cbv<;>exact rfl
 cases s with
 | true =>
  refine G0 ?_;try with_reducible exact tt
  refine CallS.pu (hz) (R0 ?_);try with_reducible exact tt
  refine Sub1.of ?_
  simp
  cases a<;>rfl
 | false =>
  refine G0 ?_;try with_reducible exact tt
theorem o_so (s:Bool) (a:Nat) (z:Int) (hz:z=if s then -(a:Int) else a):Eqn Tryz.prog o_e2 [.d (.bool s),.d (.agg [natW a])] [] (.d (wD z)) []:=by
 have h:=o_sn s a
 have e:D.agg [natW a,.bool (s&&decide (a≠0))]=wD z:=by
  subst hz
  unfold wD
  cases s with
  | true =>
   simp only [if_true,Int.natAbs_neg,Int.natAbs_natCast,Bool.true_and]
   congr 4
   rw [decide_eq_decide];omega
  | false =>
   simp only [Bool.false_and,Int.natAbs_natCast,Bool.false_eq_true,if_false]
   congr 4
 rw [e] at h
 exact h
theorem o_sp (z:Int):Eqn Tryz.prog o_e8 [.d (wD z)] [] (.d (.agg [natW z.natAbs])) []:=o_mf _ _
theorem o_sq (z:Int):Eqn Tryz.prog o_ee [.d (wD z)] [] (.d (.bool (decide (z<0)))) []:=o_mg _ _

theorem o_sr (x y:Int) (hx:size x.natAbs≤400000) (hy:size y.natAbs≤400000):Eqn Tryz.prog o_ba [.d (wD x),.d (wD y)] [] (.d (wD (x*y))) []:=by
 refine Eqn.pure o_bc (o_5e _) ?_
 have hm:=o_r0 x.natAbs y.natAbs (by omega) (by omega)
 have hk:=fun s h=>o_so s (x.natAbs*y.natAbs) (x*y) h
 refine cc (c':=?z100) ?_ ?_
 case refine_1=>cbv<;>exact rfl
 try simp only [wD] at hk ⊢
 refine G0 ?_;try with_reducible exact tt
 refine CallS.pu (hm) (R0 ?_);try with_reducible exact tt
 have e:x*y=if (decide (x<0) != decide (y<0))=true then -((x.natAbs*y.natAbs:Nat):Int) else ((x.natAbs*y.natAbs:Nat):Int):=by
  rw [Int.natCast_mul]
  by_cases h1:x<0<;>by_cases h2:y<0<;>simp only [h1,h2,decide_true,decide_false]
  ·rw [if_neg (by decide),Int.ofNat_natAbs_of_nonpos (by omega),Int.ofNat_natAbs_of_nonpos (by omega),Int.neg_mul_neg]
  ·rw [if_pos (by decide),Int.ofNat_natAbs_of_nonpos (by omega),Int.natAbs_of_nonneg (by omega),Int.neg_mul,Int.neg_neg]
  ·rw [if_pos (by decide),Int.ofNat_natAbs_of_nonpos (a:=y) (by omega),Int.natAbs_of_nonneg (by omega),Int.mul_neg,Int.neg_neg]
  ·rw [if_neg (by decide),Int.natAbs_of_nonneg (by omega),Int.natAbs_of_nonneg (by omega)]
 replace hk:=hk _ e
 refine CallS.pu (hk) (R0 ?_);try with_reducible exact tt

theorem o_ss (x:Int):Eqn Tryz.prog o_gt [.d (wD x)] [] (.d (wD (-x))) []:=by
 refine Eqn.pure o_gv (o_5e _) ?_
 have hk:=o_so (!decide (x<0)) x.natAbs (-x) (by
  by_cases h:x<0
  ·simp only [h,decide_true,Bool.not_true,Bool.false_eq_true,if_false];omega
  ·simp only [h,decide_false,Bool.not_false,if_true];omega)
 refine cc (c':=?z101) ?_ ?_
 case refine_1=>cbv<;>exact rfl
 try simp only [wD] at hk ⊢
 refine G0 ?_;try with_reducible exact tt
 refine CallS.pu (hk) (R0 ?_);try with_reducible exact tt

theorem o_st (x y:Int) (hx:size x.natAbs≤400000) (hy:size y.natAbs≤400000):Eqn Tryz.prog o_bj [.d (wD x),.d (wD y)] [] (.d (wD (x+y))) []:=by
 refine Eqn.pure o_bl (o_5e _) ?_
 by_cases hs:decide (x<0)=decide (y<0)
 ·have ha:=o_lt x.natAbs y.natAbs (by omega) (by omega)
  have hk:=o_so (decide (x<0)) (x.natAbs+y.natAbs) (x+y) (by
   rw [decide_eq_decide] at hs
   by_cases h:x<0
   ·rw [if_pos (by simpa using h)];omega
   ·rw [if_neg (by simpa using h)];omega)
  refine cc (c':=?z102) ?_ ?_
  case refine_1=>cbv<;>exact rfl
  try simp only [wD] at hk ⊢
  generalize decide (x<0)=sx at *
  generalize decide (y<0)=sy at *
  subst hs
  refine G0 ?_;try with_reducible exact tt
  refine AW.cond rfl (fun h=>?_) (fun h=>?_)
  ·refine G0 ?_;try with_reducible exact tt
   refine CallS.pu (ha) (R0 ?_);try with_reducible exact tt
   refine CallS.pu (hk) (R0 ?_);try with_reducible exact tt
  ·simp at h
 ·have hs':¬(x<0↔y<0):=fun h=>hs (decide_eq_decide.2 h)
  by_cases hle:y.natAbs≤x.natAbs
  ·have ha:=o_lx x.natAbs y.natAbs (by omega) hle
   have hk:=o_so (decide (x<0)) (x.natAbs-y.natAbs) (x+y) (by
    by_cases h:x<0
    ·rw [if_pos (by simpa using h)];omega
    ·rw [if_neg (by simpa using h)];omega)
   refine cc (c':=?z103) ?_ ?_
   case refine_1=>cbv<;>exact rfl
   try simp only [wD] at hk ⊢
   generalize decide (x<0)=sx at *
   generalize decide (y<0)=sy at *
   have hs2:(sx==sy)=false:=by simpa using hs
   refine G1 (fs hs2 hs) ?_;try with_reducible exact tt
   refine AW.cond rfl (fun h=>?_) (fun h=>?_)
   ·simp [hs2,hs] at h
   ·refine G0 ?_;try with_reducible exact tt
    refine CallS.pu (ha) (R0 ?_);try with_reducible exact tt
    refine AW.cond rfl (fun h=>?_) (fun h=>?_)
    ·refine G0 ?_;try with_reducible exact tt
     refine CallS.pu (hk) (R0 ?_);try with_reducible exact tt
    ·simp at h
  ·have hb:=o_sm x.natAbs y.natAbs (by omega) (by omega) (by omega)
   have ha:=o_lx y.natAbs x.natAbs (by omega) (by omega)
   have hk:=o_so (decide (y<0)) (y.natAbs-x.natAbs) (x+y) (by
    by_cases h:y<0
    ·rw [if_pos (by simpa using h)];omega
    ·rw [if_neg (by simpa using h)];omega)
   refine cc (c':=?z104) ?_ ?_
   case refine_1=>cbv<;>exact rfl
   try simp only [wD] at hk ⊢
   generalize decide (x<0)=sx at *
   generalize decide (y<0)=sy at *
   have hs2:(sx==sy)=false:=by simpa using hs
   refine G1 (fs hs2 hs) ?_;try with_reducible exact tt
   refine AW.cond rfl (fun h=>?_) (fun h=>?_)
   ·simp [hs2,hs] at h
   ·refine G0 ?_;try with_reducible exact tt
    refine CallS.pu (hb) (R0 ?_);try with_reducible exact tt
    refine AW.cond rfl (fun h=>?_) (fun h=>?_)
    ·simp at h
    ·refine G0 ?_;try with_reducible exact tt
     refine CallS.pu (ha) (R0 ?_);try with_reducible exact tt
     refine CallS.pu (hk) (R0 ?_);try with_reducible exact tt

def cmpI (x y:Int):Int:=if x<y then -1 else if y<x then 1 else 0
theorem o_su (x y:Int) (hx:size x.natAbs≤900000) (hy:size y.natAbs≤900000):Eqn Tryz.prog o_b7 [.d (wD x),.d (wD y)] [] (.d (.int .i64 (cmpI x y))) []:=by
 refine Eqn.pure o_b9 (o_5e _) ?_
 have h1:=o_lf y.natAbs x.natAbs (by omega) (by omega)
 have h2:=o_lf x.natAbs y.natAbs (by omega) (by omega)
 refine cc (c':=?z105) ?_ ?_
 case refine_1=>cbv<;>exact rfl
 try simp only [wD]
 by_cases hx0:x<0<;>by_cases hy0:y<0
 ·have e:cmpI x y=cmpZ y.natAbs x.natAbs:=by
   unfold cmpI cmpZ
   split<;>split<;>first | omega | (split<;>omega)
  rw [←e] at h1
  simp only [hx0,hy0,decide_true,decide_false]
  refine G0 ?_;try with_reducible exact tt
  refine AW.cond rfl (fun h=>?_) (fun h=>?_)
  ·refine G0 ?_;try with_reducible exact tt
   refine CallS.pu (h1) (R0 ?_);try with_reducible exact tt
  ·simp at h
 ·have e:cmpI x y = -1:=by unfold cmpI;rw [if_pos (by omega)]
  rw [e]
  simp only [hx0,hy0,decide_true,decide_false]
  refine G0 ?_;try with_reducible exact tt
  refine AW.cond rfl (fun h=>?_) (fun h=>?_)
  ·simp at h
  refine G0 ?_;try with_reducible exact tt
  refine AW.cond rfl (fun h=>?_) (fun h=>?_)
  ·refine G0 ?_;try with_reducible exact tt
  ·simp at h
 ·have e:cmpI x y=1:=by unfold cmpI;rw [if_neg (by omega),if_pos (by omega)]
  rw [e]
  simp only [hx0,hy0,decide_true,decide_false]
  refine G0 ?_;try with_reducible exact tt
  refine AW.cond rfl (fun h=>?_) (fun h=>?_)
  ·simp at h
  refine G0 ?_;try with_reducible exact tt
  refine AW.cond rfl (fun h=>?_) (fun h=>?_)
  ·simp at h
  refine G0 ?_;try with_reducible exact tt
  refine AW.cond rfl (fun h=>?_) (fun h=>?_)
  ·refine G0 ?_;try with_reducible exact tt
  ·simp at h
 ·have e:cmpI x y=cmpZ x.natAbs y.natAbs:=by
   unfold cmpI cmpZ
   split<;>split<;>first | omega | (split<;>omega)
  rw [←e] at h2
  simp only [hx0,hy0,decide_true,decide_false]
  refine G0 ?_;try with_reducible exact tt
  refine AW.cond rfl (fun h=>?_) (fun h=>?_)
  ·simp at h
  refine G0 ?_;try with_reducible exact tt
  refine AW.cond rfl (fun h=>?_) (fun h=>?_)
  ·simp at h
  refine G0 ?_;try with_reducible exact tt
  refine AW.cond rfl (fun h=>?_) (fun h=>?_)
  ·simp at h
  refine G0 ?_;try with_reducible exact tt
  refine CallS.pu (h2) (R0 ?_);try with_reducible exact tt
end
section
open Go.RowKit
theorem o_sv (z:Int) (d:Nat) (hd:0<d) (hz:size z.natAbs≤900000) (hds:size d≤900000):Eqn Tryz.prog o_bg [.d (wD z),.d (.agg [natW d])] [] (.d (rD (mkRat z d))) []:=by
 refine Eqn.pure o_bi (o_5e _) ?_
 obtain ⟨p1,p2,p3⟩:=o_7o z d hd
 have hg0:0<Nat.gcd z.natAbs d:=Nat.gcd_pos_of_pos_right _ hd
 have hgs:size (Nat.gcd z.natAbs d)≤900000:=Nat.le_trans (o_lw (Nat.gcd_le_right _ hd)) hds
 have h1:=o_sj z.natAbs d hz hds
 have h2:=o_si z.natAbs (Nat.gcd z.natAbs d) hz hg0 hgs
 have h3:=o_si d (Nat.gcd z.natAbs d) hds hg0 hgs
 have hdp:0<d/Nat.gcd z.natAbs d:=Nat.div_pos (Nat.gcd_le_right _ hd) hg0
 have hdq:size (d/Nat.gcd z.natAbs d)≤900000:=Nat.le_trans (o_lw (Nat.div_le_self _ _)) hds
 have h4:=o_lx (d/Nat.gcd z.natAbs d) 1 (by omega) hdp
 have hab:=o_sp z
 have hng:=o_sq z
 have hk:=o_sn (decide (z<0)) (z.natAbs/Nat.gcd z.natAbs d)
 have hsg:(decide (z<0)&&decide (z.natAbs/Nat.gcd z.natAbs d≠0))=decide ((mkRat z d).num<0):=by
  rw [Bool.eq_iff_iff]
  simp only [Bool.and_eq_true,decide_eq_true_eq,p3]
  rw [←p1]
  constructor
  ·intro h;exact h.1
  ·intro h
   have:=p3.2 h
   exact ⟨h,by omega⟩
 rw [hsg,←p1] at hk
 rw [←p1] at h2
 rw [←p2] at h3 h4
 refine cc (c':=?z106) ?_ ?_
 case refine_1=>cbv<;>exact rfl
 try simp only [rD,wD] at hab hng ⊢
 refine G0 ?_;try with_reducible exact tt
 refine CallS.pu (hab) (R0 ?_);try with_reducible exact tt
 refine CallS.pu (h1) (R0 ?_);try with_reducible exact tt
 refine CallS.pu (hab) (R0 ?_);try with_reducible exact tt
 refine CallS.pu (h2) (R0 ?_);try with_reducible exact tt
 refine CallS.pu (h3) (R0 ?_);try with_reducible exact tt
 refine CallS.pf 8 1 ⟨136,_⟩ [.int .u64 (1:Nat)] (o_lc [1] (o_m7 (by omega)) (by simp)) (by first | rfl | (simp;done)) (R0 ?_);try with_reducible exact tt
 refine CallS.pu (h4) (R0 ?_);try with_reducible exact tt
 refine CallS.pu (hng) (R0 ?_);try with_reducible exact tt
 refine CallS.pu (hk) (R0 ?_);try with_reducible exact tt

theorem o_sw (q:Rat) (h:size q.den≤900000):Eqn Tryz.prog o_bp [.d (rD q)] [] (.d (.agg [natW q.den])) []:=by
 have hp:=q.den_pos
 have:=o_mi q.num.natAbs (q.den-1) (decide (q.num<0)) (Nat.le_trans (o_lw (Nat.sub_le _ _)) (by omega))
 rw [show q.den-1+1=q.den by omega] at this
 exact this
theorem o_sx (q:Rat) (h:size q.den≤900000):Eqn Tryz.prog o_bd [.d (rD q)] [] (.d (wD q.den)) []:=by
 refine Eqn.pure o_bf (o_5e _) ?_
 have h1:=o_sw q h
 have h2:=o_so false q.den (q.den:Int) rfl
 refine cc (c':=?z107) ?_ ?_
 case refine_1=>cbv<;>exact rfl
 try simp only [rD,wD] at h1 h2 ⊢
 refine G0 ?_;try with_reducible exact tt
 refine CallS.pu (h1) (R0 ?_);try with_reducible exact tt
 refine CallS.pu (h2) (R0 ?_);try with_reducible exact tt

def RS (q:Rat) (N:Nat):Prop:=size q.num.natAbs≤N∧size q.den≤N
theorem RS.le {q:Rat} {N M:Nat} (h:RS q N) (hm:N≤M):RS q M:=⟨Nat.le_trans h.1 hm,Nat.le_trans h.2 hm⟩
theorem RS.mk' {z:Int} {d N:Nat} (hd:0<d) (h1:size z.natAbs≤N) (h2:size d≤N):RS (mkRat z d) N:=by
 obtain ⟨p1,p2,-⟩:=o_7o z d hd
 refine ⟨?_,?_⟩
 ·rw [p1];exact Nat.le_trans (o_lw (Nat.div_le_self _ _)) h1
 ·rw [p2];exact Nat.le_trans (o_lw (Nat.div_le_self _ _)) h2
theorem RS.mul {x y:Rat} {N M:Nat} (hx:RS x N) (hy:RS y M):RS (x*y) (N+M):=by
 rw [o_7q]
 refine RS.mk' (Nat.mul_pos x.den_pos y.den_pos) ?_ ?_
 ·rw [Int.natAbs_mul];have:=o_sk x.num.natAbs y.num.natAbs;have:=hx.1;have:=hy.1;omega
 ·have:=o_sk x.den y.den;have:=hx.2;have:=hy.2;omega
theorem RS.add {x y:Rat} {N M:Nat} (hx:RS x N) (hy:RS y M):RS (x+y) (N+M+1):=by
 rw [o_7p]
 refine RS.mk' (Nat.mul_pos x.den_pos y.den_pos) ?_ ?_
 ·have h1:=o_lw (Int.natAbs_add_le (x.num*y.den) (y.num*x.den))
  have h2:=o_sl (x.num*y.den).natAbs (y.num*x.den).natAbs
  rw [Int.natAbs_mul,Int.natAbs_mul,Int.natAbs_natCast,Int.natAbs_natCast] at *
  have h3:=o_sk x.num.natAbs y.den
  have h4:=o_sk y.num.natAbs x.den
  have:=hx.1;have:=hy.1;have:=hx.2;have:=hy.2
  omega
 ·have:=o_sk x.den y.den;have:=hx.2;have:=hy.2;omega
theorem RS.neg {x:Rat} {N:Nat} (hx:RS x N):RS (-x) N:=by
 refine ⟨?_,?_⟩
 ·rw [Rat.neg_num,Int.natAbs_neg];exact hx.1
 ·rw [Rat.neg_den];exact hx.2
theorem RS.sub {x y:Rat} {N M:Nat} (hx:RS x N) (hy:RS y M):RS (x-y) (N+M+1):=by
 rw [Rat.sub_eq_add_neg];exact hx.add hy.neg

theorem o_sy (x y:Rat) (hx:RS x 100000) (hy:RS y 100000):Eqn Tryz.prog o_ay [.d (rD x),.d (rD y)] [] (.d (rD (x*y))) []:=by
 refine Eqn.pure o_b0 (o_5e _) ?_
 have h1:=o_sr x.num y.num (by have:=hx.1;omega) (by have:=hy.1;omega)
 have h2:=o_sw x (by have:=hx.2;omega)
 have h3:=o_sw y (by have:=hy.2;omega)
 have h4:=o_r0 x.den y.den (by have:=hx.2;omega) (by have:=hy.2;omega)
 have h5:=o_sv (x.num*y.num) (x.den*y.den) (Nat.mul_pos x.den_pos y.den_pos) (by rw [Int.natAbs_mul];have:=o_sk x.num.natAbs y.num.natAbs;have:=hx.1;have:=hy.1;omega) (by have:=o_sk x.den y.den;have:=hx.2;have:=hy.2;omega)
 rw [←o_7q] at h5
 refine cc (c':=?z108) ?_ ?_
 case refine_1=>cbv<;>exact rfl
 try simp only [rD,wD] at h1 h2 h3 h5 ⊢
 refine G0 ?_;try with_reducible exact tt
 refine CallS.pu (h1) (R0 ?_);try with_reducible exact tt
 refine CallS.pu (h2) (R0 ?_);try with_reducible exact tt
 refine CallS.pu (h3) (R0 ?_);try with_reducible exact tt
 refine CallS.pu (h4) (R0 ?_);try with_reducible exact tt
 refine CallS.pu (h5) (R0 ?_);try with_reducible exact tt

theorem o_sz (x y:Rat) (hx:RS x 100000) (hy:RS y 100000):Eqn Tryz.prog o_8s [.d (rD x),.d (rD y)] [] (.d (rD (x+y))) []:=by
 refine Eqn.pure o_8u (o_5e _) ?_
 have x1:=hx.1;have x2:=hx.2;have y1:=hy.1;have y2:=hy.2
 have s1:=o_sk x.num.natAbs y.den
 have s2:=o_sk y.num.natAbs x.den
 have e1:(x.num*(y.den:Int)).natAbs=x.num.natAbs*y.den:=by rw [Int.natAbs_mul,Int.natAbs_natCast]
 have e2:(y.num*(x.den:Int)).natAbs=y.num.natAbs*x.den:=by rw [Int.natAbs_mul,Int.natAbs_natCast]
 have h1:=o_sr x.num y.den (by omega) (by rw [Int.natAbs_natCast];omega)
 have h1':=o_sr y.num x.den (by omega) (by rw [Int.natAbs_natCast];omega)
 have h2:=o_sw x (by omega)
 have h3:=o_sw y (by omega)
 have h2':=o_sx x (by omega)
 have h3':=o_sx y (by omega)
 have h4:=o_r0 x.den y.den (by omega) (by omega)
 have h6:=o_st (x.num*y.den) (y.num*x.den) (by rw [e1];omega) (by rw [e2];omega)
 have h5:=o_sv (x.num*y.den+y.num*x.den) (x.den*y.den) (Nat.mul_pos x.den_pos y.den_pos) (by
  have h1:=o_lw (Int.natAbs_add_le (x.num*y.den) (y.num*x.den))
  have h2:=o_sl (x.num*y.den).natAbs (y.num*x.den).natAbs
  rw [e1,e2] at *
  omega) (by have:=o_sk x.den y.den;omega)
 rw [←o_7p] at h5
 refine cc (c':=?z109) ?_ ?_
 case refine_1=>cbv<;>exact rfl
 try simp only [rD] at h2 h3 h2' h3' h5 ⊢
 generalize hz1:x.num*(y.den:Int)=z1 at *
 generalize hz2:y.num*(x.den:Int)=z2 at *
 simp only [wD] at h1 h1' h2' h3' h5 h6
 refine G0 ?_;try with_reducible exact tt
 refine CallS.pu (h3') (R0 ?_);try with_reducible exact tt
 refine CallS.pu (h1) (R0 ?_);try with_reducible exact tt
 refine CallS.pu (h2') (R0 ?_);try with_reducible exact tt
 refine CallS.pu (h1') (R0 ?_);try with_reducible exact tt
 refine CallS.pu (h6) (R0 ?_);try with_reducible exact tt
 refine CallS.pu (h2) (R0 ?_);try with_reducible exact tt
 refine CallS.pu (h3) (R0 ?_);try with_reducible exact tt
 refine CallS.pu (h4) (R0 ?_);try with_reducible exact tt
 refine CallS.pu (h5) (R0 ?_);try with_reducible exact tt

theorem o_t0 (x y:Rat) (hx:RS x 100000) (hy:RS y 100000):Eqn Tryz.prog o_fk [.d (rD x),.d (rD y)] [] (.d (rD (x-y))) []:=by
 refine Eqn.pure o_fm (o_5e _) ?_
 have h1:=o_ss y.num
 have h2:=o_sz x (-y) hx hy.neg
 rw [←Rat.sub_eq_add_neg] at h2
 refine cc (c':=?z110) ?_ ?_
 case refine_1=>cbv<;>exact rfl
 try simp only [rD,wD,Rat.neg_num,Rat.neg_den] at h1 h2 ⊢
 obtain ⟨w,hw⟩:∃w,D.bool (decide (-y.num<0))=w:=⟨_,rfl⟩
 obtain ⟨u,hu⟩:∃u,natW (-y.num).natAbs=u:=⟨_,rfl⟩
 rw [hu,hw] at h1 h2
 clear hu hw
 refine G0 ?_;try with_reducible exact tt
 refine CallS.pu (h1) (R0 ?_);try with_reducible exact tt
 refine CallS.pu (h2) (R0 ?_);try with_reducible exact tt

def cmpQ (x y:Rat):Int:=if x<y then -1 else if y<x then 1 else 0
theorem o_t1 (x y:Rat) (hx:RS x 100000) (hy:RS y 100000):Eqn Tryz.prog o_8p [.d (rD x),.d (rD y)] [] (.d (.int .i64 (cmpQ x y))) []:=by
 refine Eqn.pure o_8r (o_5e _) ?_
 have x1:=hx.1;have x2:=hx.2;have y1:=hy.1;have y2:=hy.2
 have s1:=o_sk x.num.natAbs y.den
 have s2:=o_sk y.num.natAbs x.den
 have e1:(x.num*(y.den:Int)).natAbs=x.num.natAbs*y.den:=by rw [Int.natAbs_mul,Int.natAbs_natCast]
 have e2:(y.num*(x.den:Int)).natAbs=y.num.natAbs*x.den:=by rw [Int.natAbs_mul,Int.natAbs_natCast]
 have h1:=o_sr x.num y.den (by omega) (by rw [Int.natAbs_natCast];omega)
 have h1':=o_sr y.num x.den (by omega) (by rw [Int.natAbs_natCast];omega)
 have h2':=o_sx x (by omega)
 have h3':=o_sx y (by omega)
 have h6:=o_su (x.num*y.den) (y.num*x.den) (by rw [e1];omega) (by rw [e2];omega)
 have e:cmpI (x.num*y.den) (y.num*x.den)=cmpQ x y:=by
  have a:=o_7r x y
  have b:=o_7r y x
  unfold cmpI cmpQ
  by_cases h:x<y
  ·rw [if_pos h,if_pos (a.1 h)]
  ·rw [if_neg h,if_neg (fun q=>h (a.2 q))]
   by_cases h2:y<x
   ·rw [if_pos h2,if_pos (b.1 h2)]
   ·rw [if_neg h2,if_neg (fun q=>h2 (b.2 q))]
 rw [e] at h6
 refine cc (c':=?z111) ?_ ?_
 case refine_1=>cbv<;>exact rfl
 try simp only [rD] at h2' h3' ⊢
 generalize hz1:x.num*(y.den:Int)=z1 at *
 generalize hz2:y.num*(x.den:Int)=z2 at *
 simp only [wD] at h1 h1' h2' h3' h6
 refine G0 ?_;try with_reducible exact tt
 refine CallS.pu (h3') (R0 ?_);try with_reducible exact tt
 refine CallS.pu (h1) (R0 ?_);try with_reducible exact tt
 refine CallS.pu (h2') (R0 ?_);try with_reducible exact tt
 refine CallS.pu (h1') (R0 ?_);try with_reducible exact tt
 refine CallS.pu (h6) (R0 ?_);try with_reducible exact tt

theorem o_t2 {I:Nat→Prop} {w:World} {v:Value} (h:D.rep I w .nilsl v):D.rep I w (natW 0) v:=by
 have:=Sub1.nil (⟨fun _=>none,I,w⟩:Mem) v (by rw [V.rep_d];exact h)
 rw [V.rep_d] at this
 exact this
theorem Sub1.rat0 {x y:D}:Sub1 (.d (.agg [x,y,.nilsl])) (.d (.agg [x,y,natW 0])):=fun m v k=>by
 rw [V.rep_d] at k ⊢
 unfold D.rep at k ⊢
 obtain ⟨vs,h1,h0,h2⟩:=k
 refine ⟨vs,h1,h0,?_⟩
 obtain ⟨a,r,rfl,ha,h2⟩:=D.reps_cons'.1 h2
 obtain ⟨b,r,rfl,hb,h2⟩:=D.reps_cons'.1 h2
 obtain ⟨c,r,rfl,hc,h2⟩:=D.reps_cons'.1 h2
 exact D.reps_cons.2 ⟨ha,D.reps_cons.2 ⟨hb,D.reps_cons.2 ⟨o_t2 hc,h2⟩⟩⟩
theorem o_t3 (n:Nat):Eqn Tryz.prog o_gz [.d (.agg [natW n])] [] (.d (rD (n:Rat))) []:=by
 refine Eqn.pure o_h1 (o_5e _) ?_
 have h1:=o_so false n (n:Int) rfl
 have e:rD (n:Rat) = .agg [natW n,.bool false,natW 0]:=by
  unfold rD
  rw [Rat.num_natCast,Rat.den_natCast,Int.natAbs_natCast]
  congr 4
 rw [e]
 have e2:wD (n:Int) = .agg [natW n,.bool false]:=by
  unfold wD
  rw [Int.natAbs_natCast]
  congr 4
 rw [e2] at h1
 refine cc (c':=?z112) ?_ ?_
 case refine_1=>cbv<;>exact rfl
 refine G0 ?_;try with_reducible exact tt
 refine CallS.pu (h1) (R0 ?_);try with_reducible exact tt
 exact Sub1.rat0
end
section
open Go.RowKit
theorem o_t4 (m:Nat) (hm:m≤4611686018427387904):bits BinOp.and IntKind.i64 (m:Int) 1=((m%2:Nat):Int):=by
 show IntKind.i64.wrap (((BitVec.ofInt 64 (m:Int)) &&& (BitVec.ofInt 64 (1:Int))).toNat:Int)=_
 have h1:(BitVec.ofInt 64 (1:Int)).toNat=1:=by decide
 rw [BitVec.toNat_and,h1,BitVec.ofInt_natCast,BitVec.toNat_ofNat,Nat.mod_eq_of_lt (by omega),Nat.and_one_is_mod]
 exact w64 (by omega) (by omega)

theorem o_t5 {r x m T:Nat} (h:r*x^m=T):(if m%2=1 then r*x else r)*(x*x)^(m/2)=T:=by
 have e:x^m=(x*x)^(m/2)*x^(m%2):=by
  rw [←Nat.pow_two,←Nat.pow_mul,←Nat.pow_add,Nat.div_add_mod]
 rw [←h,e]
 rcases Nat.mod_two_eq_zero_or_one m with h2 | h2
 ·rw [h2,if_neg (by omega)];simp
 ·rw [h2,if_pos rfl,Nat.pow_one,Nat.mul_assoc,Nat.mul_comm x]
theorem o_t6 {r x m T:Nat} (h:r*x^m=T) (hm:0<m) (hx:1≤x) (hr:1≤r):x≤T∧r≤T:=by
 have h1:1≤x^m:=Nat.pow_pos hx
 have h2:x≤x^m:=by
  calc x=x^1:=(Nat.pow_one x).symm
   _≤x^m:=Nat.pow_le_pow_right hx hm
 constructor
 ·rw [←h];exact Nat.le_trans h2 (Nat.le_mul_of_pos_left _ hr)
 ·rw [←h];exact Nat.le_mul_of_pos_right _ h1

set_option maxHeartbeats 2000000 in
theorem o_t7 (a n:Nat) (hn:n≤8192) (hb:bitsN a≤1∨n≤8192/bitsN a) (has:size a≤129):Eqn Tryz.prog o_it [.d (.agg [natW a]),.d (.int .i64 n)] [] (.tup [.d (.agg [natW (a^n)]),.d (.int .i64 0)]) []:=by
 refine Eqn.pure o_iv Plain.ok ?_
 have hbits:=o_o6 a (by omega)
 have hof:Eqn Tryz.prog o_e5 [.d (.sl 1 [.int .u64 (1:Nat)])] [] (.d (.agg [natW 1])) []:=by
  have:=o_lc [1] (o_m7 (by omega)) (by simp)
  simpa [W,wval] using this
 obtain ⟨q,hq⟩:∃q,bitsN a=q:=⟨_,rfl⟩
 refine cc (c':=?z113) ?_ ?_
 case refine_1=>cbv<;>exact rfl
 have hn0:¬(n:Int)<0:=by omega
 rw [hq] at hbits hb
 obtain ⟨T,hT⟩:∃T,a^n=T:=⟨_,rfl⟩
 have hTs:size T≤129:=by
  rw [←hT]
  by_cases h1:q≤1
  ·have:a≤1:=by have:=o_nk a;rw [hq] at this;have:=Nat.pow_le_pow_right (n:=2) (by omega) h1;omega
   have h2:a^n≤1:=by have:=Nat.pow_le_pow_left this n;rwa [Nat.one_pow] at this
   have:=o_lw h2
   have:=o_md (x:=1) (by omega)
   omega
  ·refine o_r1 (n:=q*n+1) ?_ ?_
   ·rw [Nat.pow_succ]
    have h2:=o_nk a
    rw [hq] at h2
    have h3:a^n≤(2^q)^n:=Nat.pow_le_pow_left (Nat.le_of_lt h2) n
    rw [←Nat.pow_mul] at h3
    have:=Nat.two_pow_pos (q*n)
    omega
   ·have h2:n≤8192/q:=hb.resolve_left h1
    rw [Nat.le_div_iff_mul_le (by omega)] at h2
    rw [Nat.mul_comm] at h2
    omega
 obtain ⟨n',hn',hn2⟩:∃n':Nat,n'=(if q≤1 then min n 1 else n)∧a^n'=T:=by
  refine ⟨_,rfl,?_⟩
  by_cases h1:q≤1
  ·have ha1:a≤1:=by have:=o_nk a;rw [hq] at this;have:=Nat.pow_le_pow_right (n:=2) (by omega) h1;omega
   rw [if_pos h1,←hT]
   rcases (by omega:a=0∨a=1) with rfl | rfl
   ·rcases Nat.eq_zero_or_pos n with rfl | hp
    ·rfl
    ·rw [Nat.min_eq_right hp,Nat.zero_pow hp]
   ·rw [Nat.one_pow,Nat.one_pow]
  ·rw [if_neg h1,hT]
 rw [hT]
 by_cases h1:q≤1
 ·rw [if_pos h1] at hn'
  have hq1:¬(1:Int)<q:=by omega
  have hq1n:¬1<q:=by omega
  have hq2:(q:Int)≤1:=by omega
  have hmin:min (n:Int) 1=(n':Int):=by omega
  have hn8:n'≤8192:=by omega
  have hn1:1<n'→1≤a∧1≤1:=fun h=>by omega
  refine G1 hn0 ?_;try with_reducible exact tt
  refine AW.cond rfl (fun h=>?_) (fun h=>?_)
  ·simp [hn0] at h
  refine G0 ?_;try with_reducible exact tt
  refine CallS.pu (hbits) (R1 (fs hq1 (fs hq1n h1)) ?_);try with_reducible exact tt
  refine AW.cond rfl (fun h=>?_) (fun h=>?_)
  ·simp at h
  refine AW.skip ?_
  simp
  refine G0 ?_;try with_reducible exact tt
  refine CallS.pf 2 1 ⟨136,_⟩ [.int .u64 (1:Nat)] (hof) (by first | rfl | (simp;done)) (R0 ?_);try with_reducible exact tt
  refine CallS.pu (hbits) (R1 (fs hq2 h1) ?_);try with_reducible exact tt
  refine AW.cond rfl (fun h=>?_) (fun h=>?_)
  rotate_left
  ·simp [hq2,h1] at h
  refine G1 hmin ?_;try with_reducible exact tt
  refine AW.loopT (α:=Nat×Nat×Nat) 4 (fun s=>[(1,.d (.int .i64 (s.1:Nat)))]) (fun s=>[(0,⟨47,[.d (natW s.2.1)]⟩),(3,⟨47,[.d (natW s.2.2)]⟩)]) (fun s=>s.1≤8192∧s.2.2*s.2.1^s.1=T∧(0<s.1→size s.2.1≤200∧size s.2.2≤200)∧(1<s.1→1≤s.2.1∧1≤s.2.2)) (fun s=>s.1) (n',a,1) ?_ ?_ ⟨hn8,by rw [Nat.one_mul];exact hn2,fun _=>⟨Nat.le_trans has (by omega),Nat.le_trans (o_md (x:=1) (by omega)) (by omega)⟩,hn1⟩ ?_ ?_ ?_
  ·simp
  ·simp
  ·simp
  ·simp
  clear hn8 hn1 hn2 hn'
  rintro ⟨m,x,r⟩ ⟨hm8,hT2,hsz,hpos⟩
  simp only at hm8 hT2 hsz hpos
  simp
  by_cases hm0:m=0
  ·subst hm0
   rw [Nat.pow_zero,Nat.mul_one] at hT2
   subst hT2
   refine G0 ?_;try with_reducible exact tt
   refine AW.cond rfl (fun h=>?_) (fun h=>?_)
   ·simp at h
   refine AW.exit ?_
   (try (simp -implicitDefEqProofs;try simp (disch:=omega) only [w64,wu64]))
   refine G0 ?_;try with_reducible exact tt
  ·have hm1:(0:Int)<m:=by omega
   have hm2:0<m:=by omega
   obtain ⟨sx,sr⟩:=hsz hm2
   have hand:=o_t4 m (by omega)
   have hm1':=o_r0 r x (by omega) (by omega)
   have hm2':=o_r0 x x (by omega) (by omega)
   have hdv:(m:Int)/2=((m/2:Nat):Int):=rfl
   have hr:=o_t5 hT2
   have hnext:(1<m/2→1≤x*x∧1≤(if m%2=1 then r*x else r)):=fun h=>by
    obtain ⟨p1,p2⟩:=hpos (by omega)
    refine ⟨Nat.mul_pos p1 p1,?_⟩
    split
    ·exact Nat.mul_pos p2 p1
    ·exact p2
   have hnext2:(0<m/2→size (x*x)≤200∧size (if m%2=1 then r*x else r)≤200):=fun h=>by
    obtain ⟨p1,p2⟩:=hpos (by omega)
    have q1:1≤x*x:=Nat.mul_pos p1 p1
    have q2:1≤(if m%2=1 then r*x else r):=by
     split
     ·exact Nat.mul_pos p2 p1
     ·exact p2
    obtain ⟨k1,k2⟩:=o_t6 hr h q1 q2
    exact ⟨Nat.le_trans (o_lw k1) (by omega),Nat.le_trans (o_lw k2) (by omega)⟩
   have hlt2:m/2<m:=by omega
   generalize m/2=hm at *
   rcases Nat.mod_two_eq_zero_or_one m with h2 | h2
   ·rw [h2] at hand hr hnext hnext2
    rw [if_neg (by omega)] at hr hnext hnext2
    refine G1 (fs hm1 hm2) ?_;try with_reducible exact tt
    refine AW.cond rfl (fun h=>?_) (fun h=>?_)
    rotate_left
    ·simp [hm1,hm2] at h
    refine G1 hand ?_;try with_reducible exact tt
    refine AW.cond rfl (fun h=>?_) (fun h=>?_)
    ·simp at h
    refine G0 ?_;try with_reducible exact tt
    refine CallS.pu (hm2') (R1 hdv ?_);try with_reducible exact tt
    repeat (first | refine AW.seq ?_ | refine AW.block ?_ | (refine AW.reg mix ?_;simp -implicitDefEqProofs [hdv];try simp (disch:=omega) only [w64,wu64]) | (refine need.of (by first | omega | kernel_rfl) ?_) | (refine AW.fin ?_;try simp -implicitDefEqProofs [hdv]))
    (try (simp -implicitDefEqProofs [hdv];try simp (disch:=omega) only [w64,wu64]))
    repeat (first | refine AW.seq ?_ | refine AW.block ?_ | (refine AW.reg mix ?_;simp -implicitDefEqProofs [hdv];try simp (disch:=omega) only [w64,wu64]) | (refine need.of (by first | omega | kernel_rfl) ?_) | (refine AW.fin ?_;try simp -implicitDefEqProofs [hdv]))
    exact ⟨hm,_,_,⟨by omega,hr,hnext2,hnext⟩,hlt2,by simp,Subs.refl _,Subs.refl _⟩
   ·rw [h2] at hand hr hnext hnext2
    rw [if_pos rfl] at hr hnext hnext2
    refine G1 (fs hm1 hm2) ?_;try with_reducible exact tt
    refine AW.cond rfl (fun h=>?_) (fun h=>?_)
    rotate_left
    ·simp [hm1,hm2] at h
    refine G1 hand ?_;try with_reducible exact tt
    refine AW.cond rfl (fun h=>?_) (fun h=>?_)
    rotate_left
    ·simp at h
    refine G0 ?_;try with_reducible exact tt
    refine CallS.pu (hm1') (R0 ?_);try with_reducible exact tt
    refine CallS.pu (hm2') (R1 hdv ?_);try with_reducible exact tt
    repeat (first | refine AW.seq ?_ | refine AW.block ?_ | (refine AW.reg mix ?_;simp -implicitDefEqProofs [hdv];try simp (disch:=omega) only [w64,wu64]) | (refine need.of (by first | omega | kernel_rfl) ?_) | (refine AW.fin ?_;try simp -implicitDefEqProofs [hdv]))
    (try (simp -implicitDefEqProofs [hdv];try simp (disch:=omega) only [w64,wu64]))
    repeat (first | refine AW.seq ?_ | refine AW.block ?_ | (refine AW.reg mix ?_;simp -implicitDefEqProofs [hdv];try simp (disch:=omega) only [w64,wu64]) | (refine need.of (by first | omega | kernel_rfl) ?_) | (refine AW.fin ?_;try simp -implicitDefEqProofs [hdv]))
    exact ⟨hm,_,_,⟨by omega,hr,hnext2,hnext⟩,hlt2,by simp,Subs.refl _,Subs.refl _⟩
 ·rw [if_neg h1] at hn'
  rw [hn'] at hn2
  clear hn' n'
  have hq1:(1:Int)<q:=by omega
  have hq1n:1<q:=by omega
  have hq2:¬(q:Int)≤1:=by omega
  have hq0:(q:Int)≠0:=by omega
  have hle:n≤8192/q:=hb.resolve_left h1
  have hdq:IntKind.i64.wrap ((8192:Int).tdiv q)=((8192/q:Nat):Int):=by
   rw [show (8192:Int).tdiv q=((8192/q:Nat):Int) from rfl,w64 (by omega) (by have:=Nat.div_le_self 8192 q;omega)]
  have ha1:1≤a:=by
   rcases Nat.eq_zero_or_pos a with rfl | h
   ·exfalso
    have:bitsN 0≤0:=o_nl (by decide)
    omega
   ·exact h
  have hn8:n≤8192:=hn
  have hn1:1<n→1≤a∧1≤1:=fun _=>⟨ha1,by omega⟩
  generalize 8192/q=dq at *
  have hle2:¬(dq:Int)<n:=by omega
  have hle3:¬dq<n:=by omega
  have hn':True:=trivial
  refine G1 hn0 ?_;try with_reducible exact tt
  refine AW.cond rfl (fun h=>?_) (fun h=>?_)
  ·simp [hn0] at h
  refine G0 ?_;try with_reducible exact tt
  refine CallS.pu (hbits) (R1 (fs hq1 hq1n) ?_);try with_reducible exact tt
  refine CallS.pu (hbits) (R1 (fs hq0 (fs hdq (fs hle2 (fs hle3 (fs hq1 hq1n))))) ?_);try with_reducible exact tt
  refine AW.cond rfl (fun h=>?_) (fun h=>?_)
  ·simp [hle2,hle3] at h
  refine AW.skip ?_
  simp
  refine G0 ?_;try with_reducible exact tt
  refine CallS.pf 2 1 ⟨136,_⟩ [.int .u64 (1:Nat)] (hof) (by first | rfl | (simp;done)) (R0 ?_);try with_reducible exact tt
  refine CallS.pu (hbits) (R1 (fs hq2 h1) ?_);try with_reducible exact tt
  refine AW.cond rfl (fun h=>?_) (fun h=>?_)
  ·simp [hq2,h1] at h
  refine AW.skip ?_
  simp
  refine G0 ?_;try with_reducible exact tt
  refine AW.loopT (α:=Nat×Nat×Nat) 4 (fun s=>[(1,.d (.int .i64 (s.1:Nat)))]) (fun s=>[(0,⟨47,[.d (natW s.2.1)]⟩),(3,⟨47,[.d (natW s.2.2)]⟩)]) (fun s=>s.1≤8192∧s.2.2*s.2.1^s.1=T∧(0<s.1→size s.2.1≤200∧size s.2.2≤200)∧(1<s.1→1≤s.2.1∧1≤s.2.2)) (fun s=>s.1) (n,a,1) ?_ ?_ ⟨hn8,by rw [Nat.one_mul];exact hn2,fun _=>⟨Nat.le_trans has (by omega),Nat.le_trans (o_md (x:=1) (by omega)) (by omega)⟩,hn1⟩ ?_ ?_ ?_
  ·simp
  ·simp
  ·simp
  ·simp
  clear hn8 hn1 hn2 hn'
  rintro ⟨m,x,r⟩ ⟨hm8,hT2,hsz,hpos⟩
  simp only at hm8 hT2 hsz hpos
  simp
  by_cases hm0:m=0
  ·subst hm0
   rw [Nat.pow_zero,Nat.mul_one] at hT2
   subst hT2
   refine G0 ?_;try with_reducible exact tt
   refine AW.cond rfl (fun h=>?_) (fun h=>?_)
   ·simp at h
   refine AW.exit ?_
   (try (simp -implicitDefEqProofs;try simp (disch:=omega) only [w64,wu64]))
   refine G0 ?_;try with_reducible exact tt
  ·have hm1:(0:Int)<m:=by omega
   have hm2:0<m:=by omega
   obtain ⟨sx,sr⟩:=hsz hm2
   have hand:=o_t4 m (by omega)
   have hm1':=o_r0 r x (by omega) (by omega)
   have hm2':=o_r0 x x (by omega) (by omega)
   have hdv:(m:Int)/2=((m/2:Nat):Int):=rfl
   have hr:=o_t5 hT2
   have hnext:(1<m/2→1≤x*x∧1≤(if m%2=1 then r*x else r)):=fun h=>by
    obtain ⟨p1,p2⟩:=hpos (by omega)
    refine ⟨Nat.mul_pos p1 p1,?_⟩
    split
    ·exact Nat.mul_pos p2 p1
    ·exact p2
   have hnext2:(0<m/2→size (x*x)≤200∧size (if m%2=1 then r*x else r)≤200):=fun h=>by
    obtain ⟨p1,p2⟩:=hpos (by omega)
    have q1:1≤x*x:=Nat.mul_pos p1 p1
    have q2:1≤(if m%2=1 then r*x else r):=by
     split
     ·exact Nat.mul_pos p2 p1
     ·exact p2
    obtain ⟨k1,k2⟩:=o_t6 hr h q1 q2
    exact ⟨Nat.le_trans (o_lw k1) (by omega),Nat.le_trans (o_lw k2) (by omega)⟩
   have hlt2:m/2<m:=by omega
   generalize m/2=hm at *
   rcases Nat.mod_two_eq_zero_or_one m with h2 | h2
   ·rw [h2] at hand hr hnext hnext2
    rw [if_neg (by omega)] at hr hnext hnext2
    refine G1 (fs hm1 hm2) ?_;try with_reducible exact tt
    refine AW.cond rfl (fun h=>?_) (fun h=>?_)
    rotate_left
    ·simp [hm1,hm2] at h
    refine G1 hand ?_;try with_reducible exact tt
    refine AW.cond rfl (fun h=>?_) (fun h=>?_)
    ·simp at h
    refine G0 ?_;try with_reducible exact tt
    refine CallS.pu (hm2') (R1 hdv ?_);try with_reducible exact tt
    repeat (first | refine AW.seq ?_ | refine AW.block ?_ | (refine AW.reg mix ?_;simp -implicitDefEqProofs [hdv];try simp (disch:=omega) only [w64,wu64]) | (refine need.of (by first | omega | kernel_rfl) ?_) | (refine AW.fin ?_;try simp -implicitDefEqProofs [hdv]))
    (try (simp -implicitDefEqProofs [hdv];try simp (disch:=omega) only [w64,wu64]))
    repeat (first | refine AW.seq ?_ | refine AW.block ?_ | (refine AW.reg mix ?_;simp -implicitDefEqProofs [hdv];try simp (disch:=omega) only [w64,wu64]) | (refine need.of (by first | omega | kernel_rfl) ?_) | (refine AW.fin ?_;try simp -implicitDefEqProofs [hdv]))
    exact ⟨hm,_,_,⟨by omega,hr,hnext2,hnext⟩,hlt2,by simp,Subs.refl _,Subs.refl _⟩
   ·rw [h2] at hand hr hnext hnext2
    rw [if_pos rfl] at hr hnext hnext2
    refine G1 (fs hm1 hm2) ?_;try with_reducible exact tt
    refine AW.cond rfl (fun h=>?_) (fun h=>?_)
    rotate_left
    ·simp [hm1,hm2] at h
    refine G1 hand ?_;try with_reducible exact tt
    refine AW.cond rfl (fun h=>?_) (fun h=>?_)
    rotate_left
    ·simp at h
    refine G0 ?_;try with_reducible exact tt
    refine CallS.pu (hm1') (R0 ?_);try with_reducible exact tt
    refine CallS.pu (hm2') (R1 hdv ?_);try with_reducible exact tt
    repeat (first | refine AW.seq ?_ | refine AW.block ?_ | (refine AW.reg mix ?_;simp -implicitDefEqProofs [hdv];try simp (disch:=omega) only [w64,wu64]) | (refine need.of (by first | omega | kernel_rfl) ?_) | (refine AW.fin ?_;try simp -implicitDefEqProofs [hdv]))
    (try (simp -implicitDefEqProofs [hdv];try simp (disch:=omega) only [w64,wu64]))
    repeat (first | refine AW.seq ?_ | refine AW.block ?_ | (refine AW.reg mix ?_;simp -implicitDefEqProofs [hdv];try simp (disch:=omega) only [w64,wu64]) | (refine need.of (by first | omega | kernel_rfl) ?_) | (refine AW.fin ?_;try simp -implicitDefEqProofs [hdv]))
    exact ⟨hm,_,_,⟨by omega,hr,hnext2,hnext⟩,hlt2,by simp,Subs.refl _,Subs.refl _⟩
end
section
open Go.RowKit
theorem o_t8 (x:Rat):∀n:Nat,x^n=mkRat (x.num^n) (x.den^n)
 | 0=>by rw [Rat.pow_zero,Int.pow_zero,Nat.pow_zero];rfl
 | n+1=>by
  rw [Rat.pow_succ,o_t8 x n]
  conv=>lhs;rhs;rw [←Rat.mkRat_self x]
  rw [Rat.mkRat_mul_mkRat,Int.pow_succ,Nat.pow_succ]

theorem o_t9 (x:Rat) (n:Nat) (hx:0≤x.num) (hn:n≤8192) (hb1:bitsN x.num.natAbs≤1∨n≤8192/bitsN x.num.natAbs) (hb2:bitsN x.den≤1∨n≤8192/bitsN x.den) (hs:RS x 129) (hs1:size (x.num.natAbs^n)≤130) (hs2:size (x.den^n)≤130) :
  Eqn Tryz.prog o_in [.d (rD x),.d (.int .i64 n)] [] (.tup [.d (rD (x^n)),.d (.int .i64 0)]) []:=by
 refine Eqn.pure o_ip Plain.ok ?_
 have h1:=o_t7 x.num.natAbs n hn hb1 hs.1
 have h2:=o_t7 x.den n hn hb2 hs.2
 have h3:=o_sw x (by have:=hs.2;omega)
 have hneg:decide (x.num<0)=false:=by rw [decide_eq_false_iff_not];omega
 have hab:=o_mf x.num.natAbs (decide (x.num<0))
 have hng:=o_mg x.num.natAbs (decide (x.num<0))
 have h4:=o_so false (x.num.natAbs^n) (x.num^n) (by rw [if_neg (by simp),Int.natCast_pow,Int.natAbs_of_nonneg hx])
 have e:(x.num^n).natAbs=x.num.natAbs^n:=Int.natAbs_pow _ _
 have h5:=o_sv (x.num^n) (x.den^n) (Nat.pow_pos x.den_pos) (by rw [e];omega) (by omega)
 rw [←o_t8] at h5
 refine cc (c':=?z114) ?_ ?_
 case refine_1=>cbv<;>exact rfl
 try simp only [rD,hneg] at hab hng h3 h5 ⊢
 generalize hz:x.num^n=z at *
 simp only [wD] at h4 h5
 refine G0 ?_;try with_reducible exact tt
 refine CallS.pu (hab) (R0 ?_);try with_reducible exact tt
 refine CallS.pu (h1) (R0 ?_);try with_reducible exact tt
 refine AW.cond rfl (fun h=>?_) (fun h=>?_)
 ·simp at h
 refine G0 ?_;try with_reducible exact tt
 refine CallS.pu (h3) (R0 ?_);try with_reducible exact tt
 refine CallS.pu (h2) (R0 ?_);try with_reducible exact tt
 refine AW.cond rfl (fun h=>?_) (fun h=>?_)
 ·simp at h
 refine G0 ?_;try with_reducible exact tt
 refine CallS.pu (hng) (R0 ?_);try with_reducible exact tt
 refine CallS.pu (h4) (R0 ?_);try with_reducible exact tt
 refine CallS.pu (h5) (R0 ?_);try with_reducible exact tt

theorem o_ta (n:Nat) (h:n<9223372036854775808):Eqn Tryz.prog o_8j [.d (.int .i64 n)] [] (.d (rD (n:Rat))) []:=by
 refine Eqn.pure o_8l (o_5e _) ?_
 have h1:=o_mh n h
 have e:rD (n:Rat) = .agg [natW n,.bool false,natW 0]:=by
  unfold rD
  rw [Rat.num_natCast,Rat.den_natCast,Int.natAbs_natCast]
  congr 4
 rw [e]
 refine cc (c':=?z115) ?_ ?_
 case refine_1=>cbv<;>exact rfl
 refine G0 ?_;try with_reducible exact tt
 refine CallS.pu (h1) (R0 ?_);try with_reducible exact tt
 exact Sub1.rat0

theorem o_tb (p q:Nat) (hp:p<9223372036854775808) (hq:q<9223372036854775808) (h0:0<q):Eqn Tryz.prog o_8m [.d (.int .i64 p),.d (.int .i64 q)] [] (.tup [.d (rD (mkRat p q)),.d (.int .i64 0)]) []:=by
 have hfr:Eqn Tryz.prog o_b4 [.d (.agg [natW p,.bool false]),.d (.agg [natW q,.bool false])] [] (.tup [.d (rD (mkRat p q)),.d (.int .i64 0)]) []:=by
  refine Eqn.pure o_b6 Plain.ok ?_
  have ha:=o_mf q false
  have hp1:=o_mf p false
  have hn1:=o_mg p false
  have hn2:=o_mg q false
  have hz:=o_ld q
  have hq0:(q==0)=false:=by simp;omega
  rw [hq0] at hz
  have h4:=o_so false p (p:Int) rfl
  have h5:=o_sv (p:Int) q h0 (by rw [Int.natAbs_natCast];exact Nat.le_trans (o_md (by omega)) (by omega)) (Nat.le_trans (o_md (by omega)) (by omega))
  have e2:wD (p:Int) = .agg [natW p,.bool false]:=by
   unfold wD
   rw [Int.natAbs_natCast]
   congr 4
  rw [e2] at h4 h5
  refine cc (c':=?z116) ?_ ?_
  case refine_1=>cbv<;>exact rfl
  try simp only [rD] at h5 ⊢
  refine G0 ?_;try with_reducible exact tt
  refine CallS.pu (ha) (R0 ?_);try with_reducible exact tt
  refine CallS.pu (hz) (R0 ?_);try with_reducible exact tt
  refine AW.cond rfl (fun h=>?_) (fun h=>?_)
  ·simp at h
  refine G0 ?_;try with_reducible exact tt
  refine CallS.pu (hn1) (R0 ?_);try with_reducible exact tt
  refine CallS.pu (hn2) (R0 ?_);try with_reducible exact tt
  refine CallS.pu (hp1) (R0 ?_);try with_reducible exact tt
  refine CallS.pu (h4) (R0 ?_);try with_reducible exact tt
  refine CallS.pu (ha) (R0 ?_);try with_reducible exact tt
  refine CallS.pu (h5) (R0 ?_);try with_reducible exact tt
 refine Eqn.pure o_8o Plain.ok ?_
 have h1:=o_mh p hp
 have h2:=o_mh q hq
 refine cc (c':=?z117) ?_ ?_
 case refine_1=>cbv<;>exact rfl
 try simp only [rD] at hfr ⊢
 refine G0 ?_;try with_reducible exact tt
 refine CallS.pu (h1) (R0 ?_);try with_reducible exact tt
 refine CallS.pu (h2) (R0 ?_);try with_reducible exact tt
 refine CallS.pu (hfr) (R0 ?_);try with_reducible exact tt
end
section
open Go.RowKit
section
variable {P:Program} {L:Nat} {Q:Exit→List V→List (Option Ob)→Prop} {T:List V} {H:List (Option Ob)} {x:C}
def AWu (P:Program) (L:Nat) (x:C) (Q:Exit→List V→List (Option Ob)→Prop):Nat→List V→List (Option Ob)→Prop
 | 0,_,_=>False
 | n+1,T,H=>AW P L x (thenQ (AWu P L x Q n) Q) T H
theorem AW.rounds (n:Nat) (h:AWu P L x Q n T H):AW P L (.loop x) Q T H:=by
 refine AW.loop (fun k T H=>AWu P L x Q k T H) n h fun k T H hk=>?_
 cases k with
 | zero=>exact hk.elim
 | succ k =>
  refine AW.mono hk fun e T' H' hq=>?_
  cases e<;>first | exact ⟨k,Nat.lt_succ_self k,hq⟩ | exact hq
theorem AWu.next {n:Nat} (h:AW P L x (thenQ (AWu P L x Q n) Q) T H):AWu P L x Q (n+1) T H:=h
end
theorem EqnD.sub {P:Program} {f:FuncId} {args args':List V} {Hs Hs':List Ob} {X:V} {dead:List Nat} (E:EqnD P f args' Hs X Hs' dead) (h:Subs args args'):EqnD P f args Hs X Hs' dead :=
 ⟨E.len,E.old,E.lowx,E.lowo,fun m vs hb hv=>E.run m vs hb (h m vs hv)⟩
end
section
open Go.RowKit
end
section
open Go.RowKit
end
section
open Go.RowKit
def valM (a k:Nat):Rat:=(a:Rat)*((mkRat ((a+1:Nat):Int) a)^k-((1:Nat):Rat))

theorem o_tc {x n:Nat} (h:bitsN x*n≤8192):size (x^n)≤129:=by
 refine o_r1 (n:=bitsN x*n+1) ?_ (by omega)
 rw [Nat.pow_succ]
 have h3:x^n≤(2^bitsN x)^n:=Nat.pow_le_pow_left (Nat.le_of_lt (o_nk x)) n
 rw [←Nat.pow_mul] at h3
 have:=Nat.two_pow_pos (bitsN x*n)
 omega
end
section
open Go.RowKit
def chM (a k:Nat):Rat:=mkRat (a:Int) (a+1)^k
theorem o_td {a:Nat}:(mkRat (a:Int) (a+1)).num=(a:Int)∧(mkRat (a:Int) (a+1)).den=a+1:=by
 obtain ⟨p1,p2,p3⟩:=o_7o (a:Int) (a+1) (by omega)
 rw [Int.natAbs_natCast] at p1 p2
 have hg:Nat.gcd a (a+1)=1:=by
  rcases Nat.eq_zero_or_pos a with rfl | h
  ·rfl
  ·rw [Nat.gcd_rec,show (a+1)%a=1%a by rw [Nat.add_mod_left],←Nat.gcd_rec,Nat.gcd_one_right]
 rw [hg,Nat.div_one] at p1 p2
 refine ⟨?_,p2⟩
 have:¬(mkRat (a:Int) (a+1)).num<0:=fun h=>by have:=p3.1 h;omega
 omega
theorem o_te (x:Rat):cmpQ x x=0:=by unfold cmpQ;rw [if_neg Rat.lt_irrefl,if_neg Rat.lt_irrefl]
end
end Go.Proofs.YtidfejfgmlakpaaGreat.Am

namespace Go.Proofs.YtidfejfgmlakpaaGreat.Am
section
open Go.RowKit
theorem o_tf (a k:Nat) (h1:1≤a) (h2:a≤4096) (hk:k≤1023) (hb:bitsN (a+1)*k≤8192):Eqn Tryz.prog o_i8 [.d (.int .i64 a),.d (.int .i64 k)] [] (.tup [.d (rD (chM a k)),.d (.int .i64 0)]) []∧RS (chM a k) 300:=by
 obtain ⟨q1,q2⟩:=o_td (a:=a)
 have hmk:=o_tb a (a+1) (by omega) (by omega) (by omega)
 obtain ⟨x,hx⟩:∃x,x=mkRat (a:Int) (a+1):=⟨_,rfl⟩
 have hv:chM a k=x^k:=by rw [hx];rfl
 rw [←hx] at q1 q2 hmk
 have hba:bitsN a≤bitsN (a+1):=o_nl (Nat.lt_trans (Nat.lt_succ_self a) (o_nk _))
 have hb2:bitsN a*k≤8192:=Nat.le_trans (Nat.mul_le_mul_right _ hba) hb
 have le8:∀q:Nat,q*k≤8192→q≤1∨k≤8192/q:=fun q h=>by
  by_cases h1:q≤1
  ·exact .inl h1
  ·right;rw [Nat.le_div_iff_mul_le (by omega),Nat.mul_comm];exact h
 have hxs:RS x 129:=⟨by rw [q1,Int.natAbs_natCast];exact Nat.le_trans (o_md (by omega)) (by omega),by rw [q2];exact Nat.le_trans (o_md (by omega)) (by omega)⟩
 have hpow:=o_t9 x k (by omega) (by omega) (by rw [q1,Int.natAbs_natCast];exact le8 _ hb2) (by rw [q2];exact le8 _ hb) hxs (by rw [q1,Int.natAbs_natCast];exact Nat.le_trans (o_tc hb2) (by omega)) (by rw [q2];exact Nat.le_trans (o_tc hb) (by omega))
 have hps:RS (x^k) 129:=⟨by rw [Rat.num_pow,Int.natAbs_pow,q1,Int.natAbs_natCast];exact o_tc hb2,by rw [Rat.den_pow,q2];exact o_tc hb⟩
 refine ⟨?_,by rw [hv];exact hps.le (by omega)⟩
 have hw:=o_n6 a k
 rw [show wrongM (a:Int) [(k:Int)]=0 by unfold wrongM;rw [if_pos (by omega),if_pos (by simp [okK];omega)]] at hw
 have e1:IntKind.i64.wrap ((a:Int)+1)=((a+1:Nat):Int):=by rw [w64 (by omega) (by omega)];omega
 refine Eqn.pure o_ia Plain.ok ?_
 rw [hv]
 clear hv hxs hps q1 q2 hx
 generalize x^k=xk at *
 generalize ha1:a+1=a' at *
 refine cc (c':=?z126) ?_ ?_
 case refine_1=>cbv<;>exact rfl
 try simp only [rD] at hmk hpow ⊢
 refine G0 ?_;try with_reducible exact tt
 refine CallS.pf 1 1 ⟨3,_⟩ [.int .i64 k] (hw) (by first | rfl | (simp [e1];done)) (R1 e1 ?_);try with_reducible exact tt
 refine AW.cond rfl (fun h=>?_) (fun h=>?_)
 ·simp at h
 refine G1 e1 ?_;try with_reducible exact tt
 refine CallS.pu (hmk) (R0 ?_);try with_reducible exact tt
 refine CallS.pu (hpow) (R0 ?_);try with_reducible exact tt
end
section
open Go.RowKit
end
section
open Go.RowKit
end
section
structure TR where
 e:Int
 y:Nat
 t:Nat
 f:Bool
 p:Nat
 d:Bool
end
section
open Go.RowKit
theorem o_tg {cs:List Bool}:∀(k p:Nat) (dd:Bool),p≤cs.length→(halfR cs k p dd).2.2.1≤cs.length
 | 0,p,dd,h=>h
 | k+1,p,dd,h=>by
  rw [halfR]
  split
  ·exact o_tg k _ _ (o_mp h)
  ·exact o_mp h

def binM (cs:List Bool):Nat→Nat→Nat→Bool→Int×Nat×Nat×Bool
 | 0,c,p,d=>(0,c,p,d)
 | n+1,c,p,d=>if flipE cs p d=0 then binM cs n (if flipB cs p d then c+1 else c) (flipP cs p d) (flipD cs p d) else (flipE cs p d,0,flipP cs p d,flipD cs p d)
theorem o_th (cs:List Bool):∀(n c p:Nat) (d:Bool),p≤cs.length→(binM cs n c p d).2.2.1≤cs.length∧(binM cs n c p d).2.1≤c+n∧p≤(binM cs n c p d).2.2.1
 | 0,c,p,d,h=>by simp [binM,h]
 | n+1,c,p,d,h=>by
  have hp:=o_mp (dd:=d) h
  have hp2:p≤flipP cs p d:=by unfold flipP;split<;>omega
  rw [binM]
  split
  ·have:=o_th cs n (if flipB cs p d then c+1 else c) (flipP cs p d) (flipD cs p d) hp
   refine ⟨this.1,?_,by omega⟩
   have h2:=this.2.1
   revert h2
   split<;>omega
  ·exact ⟨hp,Nat.zero_le _,hp2⟩

def thinM (cs:List Bool) (f:Bool):Nat→Nat→Nat→Nat→Bool→TR
 | 0,y,t,p,d=>⟨0,y,t,f,p,d⟩
 | n+1,y,t,p,d=>if (binM cs y 0 p d).1=0 then thinM cs f n (binM cs y 0 p d).2.1 (t+1) (binM cs y 0 p d).2.2.1 (binM cs y 0 p d).2.2.2 else ⟨(binM cs y 0 p d).1,y,t,f,(binM cs y 0 p d).2.2.1,(binM cs y 0 p d).2.2.2⟩
theorem o_ti (cs:List Bool) (f:Bool):∀(n y t p:Nat) (d:Bool),p≤cs.length→(thinM cs f n y t p d).p≤cs.length∧(thinM cs f n y t p d).y≤y∧t≤(thinM cs f n y t p d).t∧(thinM cs f n y t p d).t≤t+n∧((thinM cs f n y t p d).e=0→(thinM cs f n y t p d).t=t+n)∧(thinM cs f n y t p d).f=f∧p≤(thinM cs f n y t p d).p
 | 0,y,t,p,d,h=>by simp [thinM,h]
 | n+1,y,t,p,d,h=>by
  have hb:=o_th cs y 0 p d h
  rw [thinM]
  split
  ·have:=o_ti cs f n (binM cs y 0 p d).2.1 (t+1) (binM cs y 0 p d).2.2.1 (binM cs y 0 p d).2.2.2 hb.1
   refine ⟨this.1,by omega,by omega,by omega,fun h=>by have:=this.2.2.2.2.1 h;omega,this.2.2.2.2.2.1,by omega⟩
  ·rename_i he
   refine ⟨hb.1,by simp,by simp,by simp,fun h=>absurd h he,rfl,hb.2.2⟩
def downM (cs:List Bool) (most times:Nat):Nat→Nat→Nat→Bool→Nat→Bool→TR
 | 0,y,t,f,p,d=>⟨0,y,t,f,p,d⟩
 | k+1,y,t,f,p,d =>
  if most<y then
   if t=times then ⟨0,most,t,true,p,d⟩
   else if (thinM cs f 1 y t p d).e=0 then downM cs most times k (thinM cs f 1 y t p d).y (thinM cs f 1 y t p d).t f (thinM cs f 1 y t p d).p (thinM cs f 1 y t p d).d
   else ⟨(thinM cs f 1 y t p d).e,y,t,f,(thinM cs f 1 y t p d).p,(thinM cs f 1 y t p d).d⟩
  else ⟨0,y,t,f,p,d⟩
theorem o_tj (cs:List Bool) (most times:Nat):∀(k y t:Nat) (f:Bool) (p:Nat) (d:Bool),p≤cs.length→t≤times→times<t+k →
  (downM cs most times k y t f p d).p≤cs.length∧(downM cs most times k y t f p d).t≤times∧t≤(downM cs most times k y t f p d).t∧((downM cs most times k y t f p d).e=0→(downM cs most times k y t f p d).y≤most)∧((f=true→t=times)→(downM cs most times k y t f p d).f=true→(downM cs most times k y t f p d).t=times)∧p≤(downM cs most times k y t f p d).p
 | 0,y,t,f,p,d,h,h1,h2=>by omega
 | k+1,y,t,f,p,d,h,h1,h2=>by
  rw [downM]
  have hb:=o_ti cs f 1 y t p d h
  generalize thinM cs f 1 y t p d=B at *
  split
  ·split
   ·rename_i ht;exact ⟨h,h1,Nat.le_refl _,fun _=>Nat.le_refl _,fun _ _=>ht,Nat.le_refl _⟩
   ·split
    ·rename_i ht he
     have ht2:=hb.2.2.2.2.1 he
     have:=o_tj cs most times k B.y B.t f B.p B.d hb.1 (by omega) (by omega)
     refine ⟨this.1,this.2.1,by omega,this.2.2.2.1,fun hf=>this.2.2.2.2.1 (fun h=>absurd (hf h) ht),by omega⟩
    ·rename_i ht he
     exact ⟨hb.1,h1,Nat.le_refl _,fun h=>absurd h he,fun hf h=>hf h,hb.2.2.2.2.2.2⟩
  ·rename_i hy
   exact ⟨h,h1,Nat.le_refl _,fun _=>by show y≤most;omega,fun hf h=>hf h,Nat.le_refl _⟩
def oneM (cs:List Bool) (most times y t:Nat) (f:Bool) (p:Nat) (d:Bool):TR :=
 if (halfR cs t p d).1 then downM cs most times (times-t+1) (y+1) t f (halfR cs t p d).2.2.1 (halfR cs t p d).2.2.2
 else ⟨(halfR cs t p d).2.1,y,t,f,(halfR cs t p d).2.2.1,(halfR cs t p d).2.2.2⟩
def addTM (cs:List Bool) (most times:Nat):Nat→Nat→Nat→Bool→Nat→Bool→TR
 | 0,y,t,f,p,d=>⟨0,y,t,f,p,d⟩
 | n+1,y,t,f,p,d=>if (oneM cs most times y t f p d).e=0 then addTM cs most times n (oneM cs most times y t f p d).y (oneM cs most times y t f p d).t (oneM cs most times y t f p d).f (oneM cs most times y t f p d).p (oneM cs most times y t f p d).d else oneM cs most times y t f p d
def mergeTM (cs:List Bool) (most times y t:Nat) (f:Bool) (z u:Nat) (g:Bool) (p:Nat) (d:Bool):TR :=
 let A:=thinM cs f (u-t) y t p d
 if A.e=0 then
  let B:=thinM cs g (t-u) z u A.p A.d
  if B.e=0 then downM cs most times (times-A.t+1) (A.y+B.y) A.t (f || g) B.p B.d else B
 else A

theorem o_tk (cs:List Bool) (n p:Nat) (d:Bool) (hn:n≤4000000) (hp:p≤cs.length) (hc:cs.length≤4000000) :
  Eqn Tryz.prog o_fe [.p 0 0,.d (.int .i64 n)] [tapeO cs p d] (.tup [.d (.int .i64 (binM cs n 0 p d).2.1),.d (.int .i64 (binM cs n 0 p d).1)]) [tapeO cs (binM cs n 0 p d).2.2.1 (binM cs n 0 p d).2.2.2]:=by
 refine Eqn.obj1 o_fg Plain.ok ⟨rfl,fun _=>rfl⟩ ?_
 obtain ⟨R,hR⟩:∃R,R=binM cs n 0 p d:=⟨_,rfl⟩
 rw [←hR]
 have e0:max 0 (n:Int)=n:=by omega
 refine cc (c':=?z132) ?_ ?_
 case refine_1=>cbv<;>exact rfl
 refine G1B e0 ?_;try with_reducible exact tt
 refine AW.loopT (α:=Nat×Nat×Nat×Bool) 1 (fun s=>[(11,.d (.int .i64 (s.1:Int))),(6,.d (.int .i64 (s.2.1:Int)))]) (fun s=>[(0,tapeO cs s.2.2.1 s.2.2.2)]) (fun s=>s.1≤n∧s.2.1≤s.1∧s.2.2.1≤cs.length∧R=binM cs (n-s.1) s.2.1 s.2.2.1 s.2.2.2) (fun s=>n-s.1) (0,0,p,d) ?_ ?_ ⟨Nat.zero_le _,Nat.le_refl _,hp,hR⟩ ?_ ?_ ?_
 ·simp
 ·simp
 ·simp
 ·simp
 clear hR
 rintro ⟨i,c,q,dd⟩ ⟨hi,hci,hq,hR⟩
 simp only at hi hci hq hR
 simp [-Bool.exists_bool]
 by_cases h:i=n
 ·subst h
  rw [Nat.sub_self,binM] at hR
  refine G0B ?_;try with_reducible exact tt
  refine AW.cond rfl (fun h=>?_) (fun h=>?_)
  ·simp at h
  refine G0B ?_;try with_reducible exact tt
  simp [hR]
 ·have h1:i<n:=by omega
  have h2:(i:Int)<n:=by omega
  obtain ⟨r,hr⟩:∃r,n-i=r+1:=⟨n-i-1,by omega⟩
  rw [hr,binM] at hR
  have hf:=o_mo cs q dd hq hc
  have hle:=o_mp (dd:=dd) hq
  have e1:IntKind.i64.wrap ((i:Int)+1)=((i+1:Nat):Int):=by rw [w64 (by omega) (by omega)];omega
  have e2:IntKind.i64.wrap ((c:Int)+1)=((c+1:Nat):Int):=by rw [w64 (by omega) (by omega)];omega
  generalize flipE cs q dd=E at *
  generalize flipB cs q dd=B at *
  generalize flipP cs q dd=Q at *
  generalize flipD cs q dd=dd2 at *
  refine G1B (fs h1 h2) ?_;try with_reducible exact tt
  refine AW.cond rfl (fun h=>?_) (fun h=>?_)
  ·clear h
   refine G0B ?_;try with_reducible exact tt
   refine CallS.o1 0 (hf) (R0B ?_);try with_reducible exact tt
   by_cases hE:E=0
   ·subst hE
    rw [if_pos rfl] at hR
    refine AW.cond rfl (fun h=>?_) (fun h=>?_)
    ·simp at h
    refine G0B ?_;try with_reducible exact tt
    cases B with
    | true =>
     refine AW.cond rfl (fun h=>?_) (fun h=>?_)
     ·refine G1B (fs e1 e2) ?_;try with_reducible exact tt
      exact ⟨i+1,c+1,Q,dd2,⟨by omega,by omega,hle,by rw [hR,if_pos rfl];congr 1;omega⟩,by omega,by simp,by simp⟩
     ·simp at h
    | false =>
     refine AW.cond rfl (fun h=>?_) (fun h=>?_)
     ·simp at h
     ·refine G1B e1 ?_;try with_reducible exact tt
      exact ⟨i+1,c,Q,dd2,⟨by omega,by omega,hle,by rw [hR,if_neg (by simp)];congr 1;omega⟩,by omega,by simp,by simp⟩
   ·rw [if_neg hE] at hR
    refine AW.cond rfl (fun h=>?_) (fun h=>?_)
    ·refine G0B ?_;try with_reducible exact tt
     simp [hR]
    ·simp [hE] at h
  ·simp [h1] at h

def tsD (y t:Nat) (f:Bool):D:=.agg [.int .i64 y,.int .i64 t,.bool f]

theorem o_tl (cs:List Bool) (y t:Nat) (f:Bool) (k:Int) (p:Nat) (d:Bool) (hk:k≤100) (hy:y≤100000) (ht:t≤100000) (hp:p≤cs.length) (hc:cs.length≤4000000) :
  Eqn Tryz.prog o_cm [.p 0 0,.d (tsD y t f),.d (.int .i64 k)] [tapeO cs p d] (.tup [.d (tsD (thinM cs f k.toNat y t p d).y (thinM cs f k.toNat y t p d).t f),.d (.int .i64 (thinM cs f k.toNat y t p d).e)]) [tapeO cs (thinM cs f k.toNat y t p d).p (thinM cs f k.toNat y t p d).d]:=by
 refine Eqn.obj1 o_co Plain.ok ⟨rfl,fun _=>rfl⟩ ?_
 obtain ⟨n,hn,e0⟩:∃n:Nat,n=k.toNat∧max 0 k=(n:Int):=⟨k.toNat,rfl,by omega⟩
 rw [←hn]
 obtain ⟨R,hR⟩:∃R,R=thinM cs f n y t p d:=⟨_,rfl⟩
 rw [←hR]
 refine cc (c':=?z133) ?_ ?_
 case refine_1=>cbv<;>exact rfl
 try simp only [tsD]
 refine G1B e0 ?_;try with_reducible exact tt
 refine AW.loopT (α:=Nat×Nat×Nat×Nat×Bool) 3 (fun s=>[(12,.d (.int .i64 (s.1:Int)))]) (fun s=>[(0,tapeO cs s.2.2.2.1 s.2.2.2.2),(1,⟨66,[.d (.int .i64 (s.2.1:Nat)),.d (.int .i64 (s.2.2.1:Nat)),.d (.bool f)]⟩)]) (fun s=>s.1≤n∧s.2.1≤100000∧s.2.2.1≤100000+s.1∧s.2.2.2.1≤cs.length∧R=thinM cs f (n-s.1) s.2.1 s.2.2.1 s.2.2.2.1 s.2.2.2.2) (fun s=>n-s.1) (0,y,t,p,d) ?_ ?_ ⟨Nat.zero_le _,hy,ht,hp,hR⟩ ?_ ?_ ?_
 ·simp
 ·simp
 ·simp
 ·simp
 clear hR
 rintro ⟨i,z,u,q,dd⟩ ⟨hi,hz,hu,hq,hR⟩
 simp only at hi hz hu hq hR
 simp [-Bool.exists_bool]
 by_cases h:i=n
 ·subst h
  rw [Nat.sub_self,thinM] at hR
  refine G0B ?_;try with_reducible exact tt
  refine AW.cond rfl (fun h=>?_) (fun h=>?_)
  ·simp at h
  refine G0B ?_;try with_reducible exact tt
  simp [hR]
 ·have h1:i<n:=by omega
  have h2:(i:Int)<n:=by omega
  obtain ⟨r,hr⟩:∃r,n-i=r+1:=⟨n-i-1,by omega⟩
  rw [hr,thinM] at hR
  have hb:=o_tk cs z q dd (by omega) hq hc
  have hle:=o_th cs z 0 q dd hq
  have e1:IntKind.i64.wrap ((i:Int)+1)=((i+1:Nat):Int):=by rw [w64 (by omega) (by omega)];omega
  have e2:IntKind.i64.wrap ((u:Int)+1)=((u+1:Nat):Int):=by rw [w64 (by omega) (by omega)];omega
  generalize binM cs z 0 q dd=B at *
  obtain ⟨B1,B2,B3,B4⟩:=B
  simp only at hb hle hR
  refine G1B (fs h1 h2) ?_;try with_reducible exact tt
  refine AW.cond rfl (fun h=>?_) (fun h=>?_)
  ·clear h
   refine G0B ?_;try with_reducible exact tt
   refine CallS.o1 0 (hb) (R0B ?_);try with_reducible exact tt
   by_cases hE:B1=0
   ·subst hE
    rw [if_pos rfl] at hR
    refine AW.cond rfl (fun h=>?_) (fun h=>?_)
    ·simp at h
    refine G1B (fs e1 e2) ?_;try with_reducible exact tt
    exact ⟨i+1,B2,u+1,B3,B4,⟨by omega,by omega,by omega,hle.1,by rw [hR];congr 1;omega⟩,by omega,by simp,by simp⟩
   ·rw [if_neg hE] at hR
    refine AW.cond rfl (fun h=>?_) (fun h=>?_)
    ·refine G0B ?_;try with_reducible exact tt
     simp [hR]
    ·simp [hE] at h
  ·simp [h1] at h
end
section
open Go.RowKit
def tpD (a b:Int):D:=.agg [.int .i64 a,.int .i64 b]

theorem o_tm (cs:List Bool) (most times:Nat) (y t:Nat) (f:Bool) (p:Nat) (d:Bool) (hm:most≤1023) (hts:times≤20) (hy:y≤100000) (ht:t≤times) (hp:p≤cs.length) (hc:cs.length≤4000000) (R:TR) (hR:R=downM cs most times (times-t+1) y t f p d) :
  Eqn Tryz.prog o_cp [.d (tpD most times),.p 0 0,.d (tsD y t f)] [tapeO cs p d] (.tup [.d (tsD R.y R.t R.f),.d (.int .i64 R.e)]) [tapeO cs R.p R.d]:=by
 refine Eqn.obj1 o_cr Plain.ok ⟨rfl,fun _=>rfl⟩ ?_
 refine cc (c':=?z134) ?_ ?_
 case refine_1=>cbv<;>exact rfl
 try simp only [tsD,tpD]
 refine G0B ?_;try with_reducible exact tt
 refine AW.loopT (α:=Nat×Nat×Nat×Bool) 4 (fun s=>[]) (fun s=>[(0,tapeO cs s.2.2.1 s.2.2.2),(2,⟨66,[.d (.int .i64 (s.1:Nat)),.d (.int .i64 (s.2.1:Nat)),.d (.bool f)]⟩)]) (fun s=>s.1≤100000∧s.2.1≤times∧s.2.2.1≤cs.length∧R=downM cs most times (times-s.2.1+1) s.1 s.2.1 f s.2.2.1 s.2.2.2) (fun s=>times-s.2.1) (y,t,p,d) ?_ ?_ ⟨hy,ht,hp,hR⟩ ?_ ?_ ?_
 ·simp
 ·simp
 ·simp
 ·simp
 clear hR
 rintro ⟨z,u,q,dd⟩ ⟨hz,hu,hq,hR⟩
 simp only at hz hu hq hR
 rw [downM] at hR
 simp [-Bool.exists_bool]
 by_cases h:most<z
 ·rw [if_pos h] at hR
  have h':(most:Int)<z:=by omega
  refine G1B (fs h h') ?_;try with_reducible exact tt
  refine AW.cond rfl (fun hh=>?_) (fun hh=>?_)
  ·by_cases hut:u=times
   ·subst hut
    rw [if_pos rfl] at hR
    refine G0B ?_;try with_reducible exact tt
    refine AW.cond rfl (fun hh=>?_) (fun hh=>?_)
    ·refine G0B ?_;try with_reducible exact tt
     simp [hR]
    ·simp at hh
   ·rw [if_neg hut] at hR
    have hut':¬(u:Int)=times:=by omega
    have hb:=o_tl cs z u f 1 q dd (by omega) hz (by omega) hq hc
    have hle:=o_ti cs f 1 z u q dd hq
    rw [show (1:Int).toNat=1 by rfl] at hb
    generalize thinM cs f 1 z u q dd=B at *
    obtain ⟨be,bz,bu,bf,bp,bd⟩:=B
    simp only [tsD] at hb hle hR
    refine G1B (fs hut hut') ?_;try with_reducible exact tt
    refine AW.cond rfl (fun hh=>?_) (fun hh=>?_)
    ·simp [hut,hut'] at hh
    refine G0B ?_;try with_reducible exact tt
    refine CallS.o1 0 (hb) (R0B ?_);try with_reducible exact tt
    by_cases hE:be=0
    ·subst hE
     rw [if_pos rfl] at hR
     have:=hle.2.2.2.2.1 rfl
     refine AW.cond rfl (fun hh=>?_) (fun hh=>?_)
     ·simp at hh
     refine G0B ?_;try with_reducible exact tt
     exact ⟨bz,bu,bp,bd,⟨by omega,by omega,hle.1,by rw [hR];congr 1;omega⟩,by omega,by simp,by simp⟩
    ·rw [if_neg hE] at hR
     refine AW.cond rfl (fun hh=>?_) (fun hh=>?_)
     ·refine G0B ?_;try with_reducible exact tt
      simp [hR]
     ·simp [hE] at hh
  ·simp [h] at hh
 ·rw [if_neg h] at hR
  have h':¬(most:Int)<z:=by omega
  refine G1B (fs h h') ?_;try with_reducible exact tt
  refine AW.cond rfl (fun hh=>?_) (fun hh=>?_)
  ·simp [h'] at hh
  refine G0B ?_;try with_reducible exact tt
  simp [hR]

theorem o_tn (cs:List Bool) (most times:Nat) (y t:Nat) (f:Bool) (p:Nat) (d:Bool) (hm:most≤1023) (hts:times≤20) (hy:y≤90000) (ht:t≤times) (hp:p≤cs.length) (hc:cs.length≤4000000) (R:TR) (hR:R=oneM cs most times y t f p d) :
  Eqn Tryz.prog o_c4 [.d (tpD most times),.p 0 0,.d (tsD y t f)] [tapeO cs p d] (.tup [.d (tsD R.y R.t R.f),.d (.int .i64 R.e)]) [tapeO cs R.p R.d]:=by
 refine Eqn.obj1 o_c6 Plain.ok ⟨rfl,fun _=>rfl⟩ ?_
 have hh:=o_mq cs p d t (by omega) hp hc
 have hle:=o_tg (cs:=cs) t p d hp
 rw [show (t:Int).toNat=t by omega] at hh
 unfold oneM at hR
 generalize halfR cs t p d=H at *
 obtain ⟨h1,h2,h3,h4⟩:=H
 simp only at hh hR hle
 have e1:IntKind.i64.wrap ((y:Int)+1)=((y+1:Nat):Int):=by rw [w64 (by omega) (by omega)];omega
 cases h1 with
 | true =>
  rw [if_pos rfl] at hR
  have hd:=o_tm cs most times (y+1) t f h3 h4 hm hts (by omega) ht hle hc R hR
  clear hR
  obtain ⟨re,ry,rt,rf,rp,rd⟩:=R
  refine cc (c':=?z135) ?_ ?_
  case refine_1=>cbv<;>exact rfl
  try simp only [tsD,tpD] at hd ⊢
  refine G0B ?_;try with_reducible exact tt
  refine CallS.o1 0 (hh) (R0B ?_);try with_reducible exact tt
  refine AW.cond rfl (fun h=>?_) (fun h=>?_)
  ·simp at h
  refine G1B e1 ?_;try with_reducible exact tt
  refine CallS.o1 0 (hd) (R0B ?_);try with_reducible exact tt
 | false =>
  rw [if_neg (by simp)] at hR
  subst hR
  refine cc (c':=?z136) ?_ ?_
  case refine_1=>cbv<;>exact rfl
  try simp only [tsD,tpD]
  refine G0B ?_;try with_reducible exact tt
  refine CallS.o1 0 (hh) (R0B ?_);try with_reducible exact tt
  refine AW.cond rfl (fun h=>?_) (fun h=>?_)
  ·refine G0B ?_;try with_reducible exact tt
  ·simp at h

theorem o_to {cs:List Bool} {most times y t:Nat} {f:Bool} {p:Nat} {d:Bool} (hp:p≤cs.length) (ht:t≤times) (hy:y≤most) :
  (oneM cs most times y t f p d).p≤cs.length∧(oneM cs most times y t f p d).t≤times∧((oneM cs most times y t f p d).e=0→(oneM cs most times y t f p d).y≤most)∧((f=true→t=times)→(oneM cs most times y t f p d).f=true→(oneM cs most times y t f p d).t=times):=by
 unfold oneM
 have hle:=o_tg (cs:=cs) t p d hp
 split
 ·have:=o_tj cs most times (times-t+1) (y+1) t f (halfR cs t p d).2.2.1 (halfR cs t p d).2.2.2 hle ht (by omega)
  exact ⟨this.1,this.2.1,this.2.2.2.1,this.2.2.2.2.1⟩
 ·exact ⟨hle,ht,fun _=>hy,fun hf h=>hf h⟩
theorem o_tp {cs:List Bool} {most times:Nat}:∀(n y t:Nat) (f:Bool) (p:Nat) (d:Bool),p≤cs.length→t≤times→y≤most→(f=true→t=times) →
  (addTM cs most times n y t f p d).p≤cs.length∧(addTM cs most times n y t f p d).t≤times∧((addTM cs most times n y t f p d).e=0→(addTM cs most times n y t f p d).y≤most)∧((addTM cs most times n y t f p d).f=true→(addTM cs most times n y t f p d).t=times)
 | 0,y,t,f,p,d,hp,ht,hy,hf=>⟨hp,ht,fun _=>hy,hf⟩
 | n+1,y,t,f,p,d,hp,ht,hy,hf=>by
  have:=o_to (cs:=cs) (most:=most) (times:=times) (y:=y) (t:=t) (f:=f) (p:=p) (d:=d) hp ht hy
  rw [addTM]
  split
  ·rename_i he
   exact o_tp n _ _ _ _ _ this.1 this.2.1 (this.2.2.1 he) (this.2.2.2 hf)
  ·exact ⟨this.1,this.2.1,this.2.2.1,this.2.2.2 hf⟩
def GoodT (a b:Nat):Prop:=1≤a∧a≤1023∧b≤20
def WellT (a b y t:Nat) (f:Bool):Prop:=y≤a∧t≤b∧(f=true→t=b)

theorem o_tq {a b:Nat} (h:GoodT a b):Eqn Tryz.prog o_f2 [.d (tpD a b)] [] (.d (.int .i64 0)) []:=by
 refine Eqn.pure o_f4 Plain.ok ?_
 obtain ⟨h1,h2,h3⟩:=h
 have g1:¬(a:Int)<1:=by omega
 have g2:¬(1023:Int)<a:=by omega
 have g3:¬(b:Int)<0:=by omega
 have g4:¬(20:Int)<b:=by omega
 refine cc (c':=?z137) ?_ ?_
 case refine_1=>cbv<;>exact rfl
 try simp only [tpD]
 refine G1 (fs g1 (fs g2 (fs g3 g4))) ?_;try with_reducible exact tt
 refine AW.cond rfl (fun h=>?_) (fun h=>?_)
 ·simp at h
 ·refine G0 ?_;try with_reducible exact tt
theorem o_tr {a b y t:Nat} {f:Bool} (h:GoodT a b) (hw:WellT a b y t f):Eqn Tryz.prog o_f8 [.d (tpD a b),.d (tsD y t f)] [] (.d (.bool true)) []:=by
 refine Eqn.pure o_fa Plain.ok ?_
 have hc:=o_tq h
 obtain ⟨h1,h2,h3⟩:=hw
 have g1:(y:Int)≤a:=by omega
 have g2:(t:Int)≤b:=by omega
 have g3:(0:Int)≤y:=by omega
 have g4:(0:Int)≤t:=by omega
 refine cc (c':=?z138) ?_ ?_
 case refine_1=>cbv<;>exact rfl
 try simp only [tpD,tsD] at hc ⊢
 cases f with
 | true =>
  obtain rfl:=h3 rfl
  refine G1 (fs g1 (fs g2 (fs g3 (fs g4 h1)))) ?_;try with_reducible exact tt
  refine CallS.pu (hc) (R1 (fs g1 (fs g2 (fs g3 (fs g4 h1)))) ?_);try with_reducible exact tt
 | false =>
  refine G1 (fs g1 (fs g2 (fs g3 (fs g4 (fs h1 h2))))) ?_;try with_reducible exact tt
  refine CallS.pu (hc) (R1 (fs g1 (fs g2 (fs g3 (fs g4 (fs h1 h2))))) ?_);try with_reducible exact tt

theorem o_ts {a b y t:Nat} {f:Bool} (h:GoodT a b) (hw:WellT a b y t f):Eqn Tryz.prog o_c1 [.d (tpD a b),.d (.sl 1 [.int .i64 y,.int .i64 t,.bool f])] [] (.d (.int .i64 0)) []:=by
 refine Eqn.pure o_c3 Plain.ok ?_
 have hc:=o_tq h
 have hw:=o_tr h hw
 refine cc (c':=?z139) ?_ ?_
 case refine_1=>cbv<;>exact rfl
 try simp only [tpD,tsD] at hc hw ⊢
 refine G0 ?_;try with_reducible exact tt
 refine CallS.pu (hc) (R0 ?_);try with_reducible exact tt
 refine AW.cond rfl (fun h=>?_) (fun h=>?_)
 ·simp at h
 refine G0 ?_;try with_reducible exact tt
 refine AW.loopT (α:=Nat) 1 (fun i=>[(15,.d (.int .i64 (i:Int)))]) (fun i=>[]) (fun i=>i≤1) (fun i=>1-i) 0 ?_ ?_ (Nat.zero_le _) ?_ ?_ ?_
 ·simp
 ·simp
 ·simp
 ·simp
 rintro i hi
 simp
 have hi':i=0∨i=1:=by omega
 rcases hi' with rfl | rfl
 ·refine G0 ?_;try with_reducible exact tt
  refine AW.cond rfl (fun h=>?_) (fun h=>?_)
  ·refine G0 ?_;try with_reducible exact tt
   refine CallS.pu (hw) (R0 ?_);try with_reducible exact tt
   refine AW.cond rfl (fun h=>?_) (fun h=>?_)
   ·simp at h
   have ew:IntKind.i64.wrap 1=1:=w64 (by omega) (by omega)
   refine G1 ew ?_;try with_reducible exact tt
   exact ⟨1,by omega,by omega,by simp⟩
  ·simp at h
 ·refine G0 ?_;try with_reducible exact tt
  refine AW.cond rfl (fun h=>?_) (fun h=>?_)
  ·simp at h
  refine AW.exit ?_
  (try (simp -implicitDefEqProofs;try simp (disch:=omega) only [w64,wu64]))
  refine G0 ?_;try with_reducible exact tt

theorem o_tt {a b y t z u:Nat} {f g:Bool} (h:GoodT a b) (hw:WellT a b y t f) (hv:WellT a b z u g):Eqn Tryz.prog o_c1 [.d (tpD a b),.d (.sl 2 [.int .i64 y,.int .i64 t,.bool f,.int .i64 z,.int .i64 u,.bool g])] [] (.d (.int .i64 0)) []:=by
 refine Eqn.pure o_c3 Plain.ok ?_
 have hc:=o_tq h
 have hw:=o_tr h hw
 have hv:=o_tr h hv
 refine cc (c':=?z140) ?_ ?_
 case refine_1=>cbv<;>exact rfl
 try simp only [tpD,tsD] at hc hw hv ⊢
 refine G0 ?_;try with_reducible exact tt
 refine CallS.pu (hc) (R0 ?_);try with_reducible exact tt
 refine AW.cond rfl (fun h=>?_) (fun h=>?_)
 ·simp at h
 refine G0 ?_;try with_reducible exact tt
 refine AW.loopT (α:=Nat) 1 (fun i=>[(15,.d (.int .i64 (i:Int)))]) (fun i=>[]) (fun i=>i≤2) (fun i=>2-i) 0 ?_ ?_ (Nat.zero_le _) ?_ ?_ ?_
 ·simp
 ·simp
 ·simp
 ·simp
 rintro i hi
 simp
 have hi':i=0∨i=1∨i=2:=by omega
 rcases hi' with rfl | rfl | rfl
 ·refine G0 ?_;try with_reducible exact tt
  refine AW.cond rfl (fun h=>?_) (fun h=>?_)
  ·refine G0 ?_;try with_reducible exact tt
   refine CallS.pu (hw) (R0 ?_);try with_reducible exact tt
   refine AW.cond rfl (fun h=>?_) (fun h=>?_)
   ·simp at h
   have ew:IntKind.i64.wrap 1=1:=w64 (by omega) (by omega)
   refine G1 ew ?_;try with_reducible exact tt
   exact ⟨1,by omega,by omega,by simp⟩
  ·simp at h
 ·refine G0 ?_;try with_reducible exact tt
  refine AW.cond rfl (fun h=>?_) (fun h=>?_)
  ·refine G0 ?_;try with_reducible exact tt
   refine CallS.pu (hv) (R0 ?_);try with_reducible exact tt
   refine AW.cond rfl (fun h=>?_) (fun h=>?_)
   ·simp at h
   have ew:IntKind.i64.wrap 2=2:=w64 (by omega) (by omega)
   refine G1 ew ?_;try with_reducible exact tt
   exact ⟨2,by omega,by omega,by simp⟩
  ·simp at h
 ·refine G0 ?_;try with_reducible exact tt
  refine AW.cond rfl (fun h=>?_) (fun h=>?_)
  ·simp at h
  refine AW.exit ?_
  (try (simp -implicitDefEqProofs;try simp (disch:=omega) only [w64,wu64]))
  refine G0 ?_;try with_reducible exact tt
end
section
open Go.RowKit
theorem o_tu (cs:List Bool) (a b y t:Nat) (f:Bool) (k:Int) (p:Nat) (d:Bool) (hgt:GoodT a b) (hw:WellT a b y t f) (hk:k≤1048576) (hp:p≤cs.length) (hc:cs.length≤4000000) (R:TR) (hR:R=addTM cs a b k.toNat y t f p d) :
  Eqn Tryz.prog o_9a [.d (tpD a b),.p 0 0,.d (tsD y t f),.d (.int .i64 k)] [tapeO cs p d] (.tup [.d (if R.e=0 then tsD R.y R.t R.f else tsD y t f),.d (.int .i64 R.e)]) [tapeO cs R.p R.d]:=by
 refine Eqn.obj1 o_9c Plain.ok ⟨rfl,fun _=>rfl⟩ ?_
 have hwr:=o_ts hgt hw
 obtain ⟨n,hn,e0⟩:∃n:Nat,n=k.toNat∧max 0 k=(n:Int):=⟨k.toNat,rfl,by omega⟩
 rw [←hn] at hR
 have g1:¬(1048576:Int)<k:=by omega
 refine cc (c':=?z141) ?_ ?_
 case refine_1=>cbv<;>exact rfl
 try simp only [tsD,tpD] at hwr ⊢
 refine G0B ?_;try with_reducible exact tt
 refine CallS.pf 4 3 ⟨66,_⟩ [.int .i64 y,.int .i64 t,.bool f] (hwr) (by first | rfl | (simp [-Bool.exists_bool];done)) (R0B ?_);try with_reducible exact tt
 refine AW.cond rfl (fun h=>?_) (fun h=>?_)
 ·simp at h
 refine G1B g1 ?_;try with_reducible exact tt
 refine AW.cond rfl (fun h=>?_) (fun h=>?_)
 ·simp [g1] at h
 refine G1B e0 ?_;try with_reducible exact tt
 refine AW.loopT (α:=Nat×Nat×Nat×Bool×Nat×Bool) 6 (fun s=>[(28,.d (.int .i64 (s.1:Int)))]) (fun s=>[(0,tapeO cs s.2.2.2.2.1 s.2.2.2.2.2),(5,⟨66,[.d (.int .i64 (s.2.1:Nat)),.d (.int .i64 (s.2.2.1:Nat)),.d (.bool s.2.2.2.1)]⟩)]) (fun s=>s.1≤n∧WellT a b s.2.1 s.2.2.1 s.2.2.2.1∧s.2.2.2.2.1≤cs.length∧R=addTM cs a b (n-s.1) s.2.1 s.2.2.1 s.2.2.2.1 s.2.2.2.2.1 s.2.2.2.2.2) (fun s=>n-s.1) (0,y,t,f,p,d) ?_ ?_ ⟨Nat.zero_le _,hw,hp,hR⟩ ?_ ?_ ?_
 ·simp
 ·simp
 ·simp
 ·simp
 clear hR
 rintro ⟨i,z,u,g,q,dd⟩ ⟨hi,hz,hq,hR⟩
 simp only at hi hz hq hR
 simp [-Bool.exists_bool]
 by_cases hin:i=n
 ·subst hin
  rw [Nat.sub_self,addTM] at hR
  refine G0B ?_;try with_reducible exact tt
  refine AW.cond rfl (fun h=>?_) (fun h=>?_)
  ·simp at h
  refine G0B ?_;try with_reducible exact tt
  simp [hR]
 ·have h1:i<n:=by omega
  have h2:(i:Int)<n:=by omega
  obtain ⟨r,hr⟩:∃r,n-i=r+1:=⟨n-i-1,by omega⟩
  rw [hr,addTM] at hR
  have hb:=o_tn cs a b z u g q dd hgt.2.1 hgt.2.2 (by have:=hz.1;have:=hgt.2.1;omega) hz.2.1 hq hc _ rfl
  have hle:=o_to (cs:=cs) (most:=a) (times:=b) (y:=z) (t:=u) (f:=g) (p:=q) (d:=dd) hq hz.2.1 hz.1
  have e1:IntKind.i64.wrap ((i:Int)+1)=((i+1:Nat):Int):=by rw [w64 (by omega) (by omega)];omega
  generalize oneM cs a b z u g q dd=B at *
  obtain ⟨be,bz,bu,bf,bp,bd⟩:=B
  simp only [tsD,tpD] at hb hle hR
  refine G1B (fs h1 h2) ?_;try with_reducible exact tt
  refine AW.cond rfl (fun h=>?_) (fun h=>?_)
  ·clear h
   refine G0B ?_;try with_reducible exact tt
   refine CallS.o1 0 (hb) (R0B ?_);try with_reducible exact tt
   by_cases hE:be=0
   ·subst hE
    rw [if_pos rfl] at hR
    refine AW.cond rfl (fun h=>?_) (fun h=>?_)
    ·simp at h
    refine G1B e1 ?_;try with_reducible exact tt
    exact ⟨i+1,bz,bu,bf,bp,bd,⟨by omega,⟨hle.2.2.1 rfl,hle.2.1,hle.2.2.2 hz.2.2⟩,hle.1,by rw [hR];congr 1;omega⟩,by omega,by simp,by simp⟩
   ·rw [if_neg hE] at hR
    refine AW.cond rfl (fun h=>?_) (fun h=>?_)
    ·refine G0B ?_;try with_reducible exact tt
     simp [hR,hE]
    ·simp [hE] at h
  ·simp [h1] at h

theorem o_tv (cs:List Bool) (a b y t:Nat) (f:Bool) (z u:Nat) (g:Bool) (p:Nat) (d:Bool) (h:GoodT a b) (hw:WellT a b y t f) (hv:WellT a b z u g) (hp:p≤cs.length) (hc:cs.length≤4000000) (R:TR) (hR:R=mergeTM cs a b y t f z u g p d) :
  Eqn Tryz.prog o_9v [.d (tpD a b),.p 0 0,.d (tsD y t f),.d (tsD z u g)] [tapeO cs p d] (.tup [.d (if R.e=0 then tsD R.y R.t R.f else tsD y t f),.d (.int .i64 R.e)]) [tapeO cs R.p R.d]:=by
 refine Eqn.obj1 o_9x Plain.ok ⟨rfl,fun _=>rfl⟩ ?_
 have hwr:=o_tt h hw hv
 obtain ⟨y1,t1,f1⟩:=hw
 obtain ⟨z1,u1,g1⟩:=hv
 obtain ⟨a1,a2,a3⟩:=h
 have hA:=o_tl cs y t f ((u:Int)-t) p d (by omega) (by omega) (by omega) hp hc
 rw [show ((u:Int)-t).toNat=u-t by omega] at hA
 have hAle:=o_ti cs f (u-t) y t p d hp
 unfold mergeTM at hR
 generalize thinM cs f (u-t) y t p d=A at *
 obtain ⟨ae,ay,at_,af,ap,ad⟩:=A
 simp only at hA hAle hR
 have hB:=o_tl cs z u g ((t:Int)-u) ap ad (by omega) (by omega) (by omega) hAle.1 hc
 rw [show ((t:Int)-u).toNat=t-u by omega] at hB
 have hBle:=o_ti cs g (t-u) z u ap ad hAle.1
 generalize thinM cs g (t-u) z u ap ad=B at *
 obtain ⟨be,bz,bu,bf,bp,bd⟩:=B
 simp only at hB hBle hR
 have e1:IntKind.i64.wrap ((u:Int)-t)=(u:Int)-t:=w64 (by omega) (by omega)
 have e2:IntKind.i64.wrap ((t:Int)-u)=(t:Int)-u:=w64 (by omega) (by omega)
 have e3:IntKind.i64.wrap ((ay:Int)+bz)=((ay+bz:Nat):Int):=by rw [w64 (by omega) (by omega)];omega
 refine cc (c':=?z142) ?_ ?_
 case refine_1=>cbv<;>exact rfl
 try simp only [tsD,tpD] at hwr hA hB ⊢
 refine G0B ?_;try with_reducible exact tt
 refine CallS.pf 5 3 ⟨66,_⟩ [.int .i64 y,.int .i64 t,.bool f,.int .i64 z,.int .i64 u,.bool g] (hwr) (by first | rfl | (simp [-Bool.exists_bool];done)) (R0B ?_);try with_reducible exact tt
 refine AW.cond rfl (fun h=>?_) (fun h=>?_)
 ·simp at h
 refine G1B e1 ?_;try with_reducible exact tt
 try simp only [e1]
 refine CallS.o1 0 (hA) (R0B ?_);try with_reducible exact tt
 by_cases hE:ae=0
 ·subst hE
  rw [if_pos rfl] at hR
  have hat:=hAle.2.2.2.2.1 rfl
  refine AW.cond rfl (fun h=>?_) (fun h=>?_)
  ·simp at h
  refine G1B e2 ?_;try with_reducible exact tt
  try simp only [e2]
  refine CallS.o1 0 (hB) (R1B e3 ?_);try with_reducible exact tt
  by_cases hF:be=0
  ·subst hF
   rw [if_pos rfl] at hR
   have hD:=o_tm cs a b (ay+bz) at_ (f || g) bp bd a2 a3 (by omega) (by omega) hBle.1 hc R hR
   clear hR
   obtain ⟨re,ry,rt,rf,rp,rd⟩:=R
   simp only [tsD,tpD] at hD
   refine AW.cond rfl (fun h=>?_) (fun h=>?_)
   ·simp at h
   cases f with
   | true =>
    simp only [Bool.true_or] at hD
    refine G1B e3 ?_;try with_reducible exact tt
    refine CallS.o1 0 (hD) (R0B ?_);try with_reducible exact tt
    by_cases hG:re=0
    ·subst hG
     refine AW.cond rfl (fun h=>?_) (fun h=>?_)
     ·simp at h
     refine G0B ?_;try with_reducible exact tt
    ·refine AW.cond rfl (fun h=>?_) (fun h=>?_)
     ·refine G0B ?_;try with_reducible exact tt
      simp [hG]
     ·simp [hG] at h
   | false =>
    simp only [Bool.false_or] at hD
    refine G1B e3 ?_;try with_reducible exact tt
    refine CallS.o1 0 (hD) (R0B ?_);try with_reducible exact tt
    by_cases hG:re=0
    ·subst hG
     refine AW.cond rfl (fun h=>?_) (fun h=>?_)
     ·simp at h
     refine G0B ?_;try with_reducible exact tt
    ·refine AW.cond rfl (fun h=>?_) (fun h=>?_)
     ·refine G0B ?_;try with_reducible exact tt
      simp [hG]
     ·simp [hG] at h
  ·rw [if_neg hF] at hR
   subst hR
   refine AW.cond rfl (fun h=>?_) (fun h=>?_)
   ·refine G0B ?_;try with_reducible exact tt
    simp [hF]
   ·simp [hF] at h
 ·rw [if_neg hE] at hR
  subst hR
  refine AW.cond rfl (fun h=>?_) (fun h=>?_)
  ·refine G0B ?_;try with_reducible exact tt
   simp [hE]
  ·simp [hE] at h
end
section
open Go.RowKit
def GoodC (k a w:Nat):Prop:=(k=1∧1≤a∧a≤4096∧bitsN (a+1)*(2^w-1)≤8192∨k=2∧a≤8∨k=3∧1≤a∧a≤5)∧1≤w∧w≤10
theorem o_tw {k a w:Nat} (h:GoodS k a w):GoodC k a w:=by
 obtain ⟨h,h1,h2⟩:=h
 refine ⟨?_,h1,by omega⟩
 rcases h with ⟨rfl,h3,h4⟩ | ⟨rfl,h3⟩ | ⟨rfl,h3,h4⟩
 ·refine .inl ⟨rfl,h3,by omega,?_⟩
  have ha:a=1∨a=2∨a=3∨a=4:=by omega
  have hw:w=1∨w=2∨w=3∨w=4:=by omega
  rcases ha with rfl | rfl | rfl | rfl<;>rcases hw with rfl | rfl | rfl | rfl<;>decide
 ·exact .inr (.inl ⟨rfl,by omega⟩)
 ·exact .inr (.inr ⟨rfl,h3,by omega⟩)
theorem o_tx {k a w:Nat} (h:GoodC k a w):Eqn Tryz.prog o_f5 [.d (parD k a w)] [] (.d (.int .i64 0)) []:=by
 obtain ⟨h,h1,h2⟩:=h
 rcases h with ⟨rfl,h3,h4,h5⟩ | ⟨rfl,h3⟩ | ⟨rfl,h3,h4⟩
 ·exact o_pd a w h3 h4 h1 h2 h5
 ·exact o_pf a w h3 h1 h2
 ·exact o_pg a w h3 h4 h1 h2
theorem o_ty {k a w:Nat} (h:GoodC k a w) (cs:List Bool) (hn:cs.length≤4000000):∃ti d g,StepOf cs ti d g (stOf cs k a)∧kindD k a = .ifc ti d:=by
 obtain ⟨h,-⟩:=h
 rcases h with ⟨rfl,-⟩ | ⟨rfl,-⟩ | ⟨rfl,-⟩
 ·exact ⟨_,_,_,⟨o_ne,fun x p dd hp=>o_pj cs a x p dd hp hn,fun x p dd hp=>o_pu hp⟩,rfl⟩
 ·exact ⟨_,_,_,⟨o_nf,fun x p dd hp=>o_po cs a x p dd hp hn,fun x p dd hp=>o_pv hp⟩,rfl⟩
 ·exact ⟨_,_,_,⟨o_ng,fun x p dd hp=>o_pq cs a x p dd hp hn,fun x p dd hp=>o_pw hp⟩,rfl⟩
theorem o_tz {k a w:Nat} (h:GoodC k a w) (cs:List Bool) (hn:cs.length≤4000000):∃ti d g,AgainOf cs ti d g (agOf cs k a)∧kindD k a = .ifc ti d:=by
 obtain ⟨h,-⟩:=h
 rcases h with ⟨rfl,h1,h2,-⟩ | ⟨rfl,h1⟩ | ⟨rfl,h1,h2⟩
 ·exact ⟨_,_,_,⟨o_q4,fun x r p dd hx hr hp=>o_q7 cs a x r p dd _ (o_q1 cs a x r p dd h1 h2 hx hr hp hn),fun x r p dd hp=>o_pt _ _ _ hp⟩,rfl⟩
 ·exact ⟨_,_,_,⟨o_q5,fun x r p dd hx hr hp=>o_q8 cs a x r p dd _ (o_q2 cs a x r p dd h1 hx hr hp hn _ rfl),fun x r p dd hp=>o_ps _ _ _ hp⟩,rfl⟩
 ·exact ⟨_,_,_,⟨o_q6,fun x r p dd hx hr hp=>o_q9 cs a x r p dd _ (o_q3 cs a x r p dd h1 h2 hx hr hp hn _ rfl),fun x r p dd hp=>o_ps _ _ _ hp⟩,rfl⟩
theorem o_u0 {k a w:Nat} (h:GoodC k a w) (cs:List Bool) (hcs:cs.length≤4000000) (x:Nat) (hx:x≤2^w-1) (f:Bool) (n:Nat) (m:Int) (hmx:max 0 m=(n:Int)) (hn:m≤1048576) (p:Nat) (dd:Bool) (hp:p≤cs.length) (S:Int×Nat×Bool×Nat×Bool) (hS:S=addL (stOf cs k a) (2^w-1) n x f p dd) :
  Eqn Tryz.prog o_9m [.d (parD k a w),.p 0 0,.d (.agg [.int .i64 x,.bool f]),.d (.int .i64 m)] [tapeO cs p dd] (.tup [.d (.agg [.int .i64 (if S.1=0 then S.2.1 else x:Nat),.bool (if S.1=0 then S.2.2.1 else f)]),.d (.int .i64 S.1)]) [tapeO cs S.2.2.2.1 S.2.2.2.2]:=by
 obtain ⟨ti,d,g,h1,h2⟩:=o_ty h cs hcs
 exact o_pr cs k a w h.2.2 ti d g _ h1 h2 (o_tx h) x hx f n m hmx hn p dd hp S hS
theorem o_u1 {k a w:Nat} (h:GoodC k a w) (cs:List Bool) (hcs:cs.length≤4000000) (x:Nat) (hx:x≤2^w-1) (f:Bool) (n:Nat) (hn:n≤2^w-1) (fo:Bool) (p:Nat) (dd:Bool) (hp:p≤cs.length) (S:Int×Nat×Bool×Nat×Bool) (hS:S=mergeL (agOf cs k a) (2^w-1) n 0 x f p dd) :
  Eqn Tryz.prog o_9y [.d (parD k a w),.p 0 0,.d (.agg [.int .i64 x,.bool f]),.d (.agg [.int .i64 n,.bool fo])] [tapeO cs p dd] (.tup [.d (.agg [.int .i64 (if S.1=0 then S.2.1 else x:Nat),.bool (if S.1=0 then S.2.2.1 || fo else f)]),.d (.int .i64 S.1)]) [tapeO cs S.2.2.2.1 S.2.2.2.2]:=by
 obtain ⟨ti,d,g,h1,h2⟩:=o_tz h cs hcs
 exact o_qe cs k a w h.2.2 ti d g _ h1 h2 (o_tx h) x hx f n hn fo p dd hp S hS

theorem o_u2 {k a w:Nat} (h:GoodC k a w) (cs:List Bool) (hn:cs.length≤4000000):∀x p d,p≤cs.length→(stOf cs k a x p d).2.2.1≤cs.length:=by
 obtain ⟨ti,d,g,h1,h2⟩:=o_ty h cs hn
 exact h1.le
theorem o_u3 {st:StepT} {top:Nat}:∀(n x:Nat) (f:Bool) (p:Nat) (d:Bool),(f=true→x=top)→(addL st top n x f p d).2.2.1=true→(addL st top n x f p d).2.1=top
 | 0,x,f,p,d,hf,h=>hf h
 | n+1,x,f,p,d,hf,h=>by
  rw [addL] at h ⊢
  by_cases hx:x=top
  ·simp only [if_pos hx];exact hx
  ·simp only [if_neg hx] at h ⊢
   have hff:f=false:=by cases f with | false=>rfl | true=>exact absurd (hf rfl) hx
   subst hff
   by_cases he:(st x p d).2.1=0
   ·simp only [if_pos he] at h ⊢
    simp only [Bool.false_eq_true,false_and,if_false] at h ⊢
    exact o_u3 n _ _ _ _ (by simp) h
   ·simp only [if_neg he] at h;cases h
def GoodR (k a b:Nat):Prop:=k=4∧GoodT a b∨k≠4∧GoodC k a b
def WellR (k a b y t:Nat) (f:Bool):Prop:=k=4∧WellT a b y t f∨k≠4∧t=0∧y≤2^b-1∧(f=true→y=2^b-1)
def addRM (cs:List Bool) (k a b n y t:Nat) (f:Bool) (p:Nat) (d:Bool):TR :=
 if k=4 then addTM cs a b n y t f p d
 else ⟨(addL (stOf cs k a) (2^b-1) n y f p d).1,(addL (stOf cs k a) (2^b-1) n y f p d).2.1,0,(addL (stOf cs k a) (2^b-1) n y f p d).2.2.1,(addL (stOf cs k a) (2^b-1) n y f p d).2.2.2.1,(addL (stOf cs k a) (2^b-1) n y f p d).2.2.2.2⟩
def mergeRM (cs:List Bool) (k a b y t:Nat) (f:Bool) (z u:Nat) (g:Bool) (p:Nat) (d:Bool):TR :=
 if k=4 then mergeTM cs a b y t f z u g p d
 else ⟨(mergeL (agOf cs k a) (2^b-1) z 0 y f p d).1,(mergeL (agOf cs k a) (2^b-1) z 0 y f p d).2.1,0,(mergeL (agOf cs k a) (2^b-1) z 0 y f p d).2.2.1 || g,(mergeL (agOf cs k a) (2^b-1) z 0 y f p d).2.2.2.1,(mergeL (agOf cs k a) (2^b-1) z 0 y f p d).2.2.2.2⟩

theorem o_u4 {cs:List Bool} {k a b n y t:Nat} {f:Bool} {p:Nat} {d:Bool} (h:GoodR k a b) (hw:WellR k a b y t f) (hp:p≤cs.length) (hc:cs.length≤4000000) :
  (addRM cs k a b n y t f p d).p≤cs.length∧((addRM cs k a b n y t f p d).e=0→WellR k a b (addRM cs k a b n y t f p d).y (addRM cs k a b n y t f p d).t (addRM cs k a b n y t f p d).f):=by
 unfold addRM
 rcases hw with ⟨rfl,hw⟩ | ⟨hk,rfl,hy,hf⟩
 ·rw [if_pos rfl]
  have:=o_tp (cs:=cs) n y t f p d hp hw.2.1 hw.1 hw.2.2
  exact ⟨this.1,fun he=>.inl ⟨rfl,this.2.2.1 he,this.2.1,this.2.2.2⟩⟩
 ·rw [if_neg hk]
  rcases h with ⟨rfl,-⟩ | ⟨-,hg⟩
  ·exact absurd rfl hk
  have h1:=o_n3 (top:=2^b-1) (o_u2 hg cs hc) n y f p d hy hp
  exact ⟨h1.2.2,fun _=>.inr ⟨hk,rfl,h1.2.1,o_u3 n y f p d hf⟩⟩
end
section

end
section
open Go.RowKit
end
section
open Go.RowKit
end
section
open Go.RowKit
end
section
open Go.RowKit
def wellTB (a b y t:Nat) (f:Bool):Bool:=decide (y≤a)&&(decide (t≤b)&&(!f || t==b))
theorem o_u5 {a b:Nat} (h:GoodT a b) (y t:Nat) (f:Bool):Eqn Tryz.prog o_f8 [.d (tpD a b),.d (tsD y t f)] [] (.d (.bool (wellTB a b y t f))) []:=by
 refine Eqn.pure o_fa Plain.ok ?_
 have hc:=o_tq h
 have g3:(0:Int)≤y:=by omega
 have g4:(0:Int)≤t:=by omega
 refine cc (c':=?z143) ?_ ?_
 case refine_1=>cbv<;>exact rfl
 try simp only [tpD,tsD,wellTB] at hc ⊢
 by_cases h1:y≤a
 ·have h1':(y:Int)≤a:=by omega
  by_cases h2:t≤b
  ·have h2':(t:Int)≤b:=by omega
   cases f with
   | true =>
    by_cases h3:t=b
    ·subst h3
     refine G1 (fs g3 (fs g4 (fs h1 (fs h1' (fs h2 h2'))))) ?_;try with_reducible exact tt
     refine CallS.pu (hc) (R1 (fs g3 (fs g4 (fs h1 (fs h1' (fs h2 h2'))))) ?_);try with_reducible exact tt
    ·have h3':¬(t:Int)=b:=by omega
     refine G1 (fs g3 (fs g4 (fs h1 (fs h1' (fs h2 (fs h2' (fs h3 h3'))))))) ?_;try with_reducible exact tt
     refine CallS.pu (hc) (R1 (fs g3 (fs g4 (fs h1 (fs h1' (fs h2 (fs h2' (fs h3 h3'))))))) ?_);try with_reducible exact tt
     exact Sub1.bool (by rw [Bool.eq_iff_iff];simp;omega)
   | false =>
    refine G1 (fs g3 (fs g4 (fs h1 (fs h1' (fs h2 h2'))))) ?_;try with_reducible exact tt
    refine CallS.pu (hc) (R1 (fs g3 (fs g4 (fs h1 (fs h1' (fs h2 h2'))))) ?_);try with_reducible exact tt
  ·have h2':¬(t:Int)≤b:=by omega
   refine G1 (fs g3 (fs g4 (fs h1 (fs h1' (fs h2 h2'))))) ?_;try with_reducible exact tt
   refine CallS.pu (hc) (R1 (fs g3 (fs g4 (fs h1 (fs h1' (fs h2 h2'))))) ?_);try with_reducible exact tt
 ·have h1':¬(y:Int)≤a:=by omega
  refine G1 (fs g3 (fs g4 (fs h1 h1'))) ?_;try with_reducible exact tt
  refine CallS.pu (hc) (R1 (fs g3 (fs g4 (fs h1 h1'))) ?_);try with_reducible exact tt

theorem o_u6 (k a b:Int):Eqn Tryz.prog o_97 [.d (parD k a b)] [] (.d (tpD a b)) []:=by
 refine Eqn.pure o_99 Plain.ok ?_
 refine cc (c':=?z144) ?_ ?_
 case refine_1=>cbv<;>exact rfl
 try simp only [parD,tpD]
 refine G0 ?_;try with_reducible exact tt
theorem o_u7 (k a b:Int):Eqn Tryz.prog o_9j [.d (parD k a b)] [] (.d (parD k a b)) []:=by
 refine Eqn.pure o_9l Plain.ok ?_
 refine cc (c':=?z145) ?_ ?_
 case refine_1=>cbv<;>exact rfl
 try simp only [parD]
 refine G0 ?_;try with_reducible exact tt
theorem o_u8 (y t:Int) (f:Bool):Eqn Tryz.prog o_9d [.d (.agg [.int .i64 y,.int .i64 t,.bool f])] [] (.d (.agg [.int .i64 y,.int .i64 t,.bool f])) []:=by
 refine Eqn.pure o_9f Plain.ok ?_
 refine cc (c':=?z146) ?_ ?_
 case refine_1=>cbv<;>exact rfl
 refine G0 ?_;try with_reducible exact tt
theorem o_u9 (y t:Int) (f:Bool):Eqn Tryz.prog o_9g [.d (.agg [.int .i64 y,.int .i64 t,.bool f])] [] (.d (.agg [.int .i64 y,.int .i64 t,.bool f])) []:=by
 refine Eqn.pure o_9i Plain.ok ?_
 refine cc (c':=?z147) ?_ ?_
 case refine_1=>cbv<;>exact rfl
 refine G0 ?_;try with_reducible exact tt
theorem o_ua (y t:Int) (f:Bool):Eqn Tryz.prog o_9p [.d (.agg [.int .i64 y,.int .i64 t,.bool f])] [] (.d (.agg [.int .i64 y,.bool f])) []:=by
 refine Eqn.pure o_9r Plain.ok ?_
 refine cc (c':=?z148) ?_ ?_
 case refine_1=>cbv<;>exact rfl
 refine G0 ?_;try with_reducible exact tt
theorem o_ub (y:Int) (f:Bool):Eqn Tryz.prog o_9s [.d (.agg [.int .i64 y,.bool f])] [] (.d (.agg [.int .i64 y,.int .i64 0,.bool f])) []:=by
 refine Eqn.pure o_9u Plain.ok ?_
 refine cc (c':=?z149) ?_ ?_
 case refine_1=>cbv<;>exact rfl
 refine G0 ?_;try with_reducible exact tt

theorem o_uc {k a b:Nat} (h:GoodR k a b):Eqn Tryz.prog o_bv [.d (parD k a b)] [] (.d (.int .i64 0)) []:=by
 refine Eqn.pure o_bx Plain.ok ?_
 rcases h with ⟨rfl,h⟩ | ⟨hk,h⟩
 ·have h1:=o_u6 4 a b
  have h2:=o_tq h
  refine cc (c':=?z150) ?_ ?_
  case refine_1=>cbv<;>exact rfl
  try simp only [parD,tpD] at h1 h2 ⊢
  refine G0 ?_;try with_reducible exact tt
  refine AW.cond rfl (fun h=>?_) (fun h=>?_)
  ·refine G0 ?_;try with_reducible exact tt
   refine CallS.pu (h1) (R0 ?_);try with_reducible exact tt
   refine CallS.pu (h2) (R0 ?_);try with_reducible exact tt
  ·simp at h
 ·have h1:=o_u7 k a b
  have h2:=o_tx h
  have hk':¬(k:Int)=4:=by omega
  refine cc (c':=?z151) ?_ ?_
  case refine_1=>cbv<;>exact rfl
  try simp only [parD] at h1 h2 ⊢
  refine G1 (fs hk hk') ?_;try with_reducible exact tt
  refine AW.cond rfl (fun h=>?_) (fun h=>?_)
  ·simp [hk'] at h
  ·refine G0 ?_;try with_reducible exact tt
   refine CallS.pu (h1) (R0 ?_);try with_reducible exact tt
   refine CallS.pu (h2) (R0 ?_);try with_reducible exact tt

def wellRB (k a b y t:Nat) (f:Bool):Bool:=if k=4 then wellTB a b y t f else (t==0)&&(decide (y≤2^b-1)&&(!f || y==2^b-1))
theorem o_ud {k a b y t:Nat} {f:Bool}:wellRB k a b y t f=true↔WellR k a b y t f:=by
 unfold wellRB WellR wellTB WellT
 by_cases hk:k=4
 ·subst hk
  simp
  intro _ _
  cases f<;>simp
 ·simp [hk]
  intro _ _
  cases f<;>simp

theorem o_ue {k a b:Nat} (h:GoodR k a b) (y t:Nat) (f:Bool):Eqn Tryz.prog o_by [.d (parD k a b),.d (tsD y t f)] [] (.d (.bool (wellRB k a b y t f))) []:=by
 refine Eqn.pure o_c0 Plain.ok ?_
 have hc:=o_uc h
 rcases h with ⟨rfl,h⟩ | ⟨hk,h⟩
 ·have h1:=o_u6 4 a b
  have h2:=o_u5 h y t f
  have h3:=o_u8 y t f
  refine cc (c':=?z152) ?_ ?_
  case refine_1=>cbv<;>exact rfl
  try simp only [parD,tpD,tsD,wellRB,if_true] at hc h1 h2 h3 ⊢
  generalize wellTB a b y t f=w at *
  refine G0 ?_;try with_reducible exact tt
  refine CallS.pu (hc) (R0 ?_);try with_reducible exact tt
  refine AW.cond rfl (fun h=>?_) (fun h=>?_)
  ·simp at h
  refine G0 ?_;try with_reducible exact tt
  refine AW.cond rfl (fun h=>?_) (fun h=>?_)
  ·refine G0 ?_;try with_reducible exact tt
   refine CallS.pu (h1) (R0 ?_);try with_reducible exact tt
   refine CallS.pu (h3) (R0 ?_);try with_reducible exact tt
   refine CallS.pu (h2) (R0 ?_);try with_reducible exact tt
  ·simp at h
 ·have h1:=o_u7 k a b
  have h2:=o_ph k a b h.2.2 (o_tx h)
  have hk':¬(k:Int)=4:=by omega
  have g:(0:Int)≤y:=by omega
  refine cc (c':=?z153) ?_ ?_
  case refine_1=>cbv<;>exact rfl
  try simp only [parD,tsD,wellRB,if_neg hk] at hc h1 h2 ⊢
  generalize 2^b-1=S at *
  by_cases ht:t=0
  ·subst ht
   by_cases hy:y≤S
   ·have hy':(y:Int)≤S:=by omega
    cases f with
    | true =>
     by_cases hs:y=S
     ·subst hs
      refine G1 (fs g (fs hk hk')) ?_;try with_reducible exact tt
      refine CallS.pu (hc) (R1 (fs g (fs hk hk')) ?_);try with_reducible exact tt
      refine AW.cond rfl (fun h=>?_) (fun h=>?_)
      ·simp at h
      refine G1 (fs g (fs hk hk')) ?_;try with_reducible exact tt
      refine AW.cond rfl (fun h=>?_) (fun h=>?_)
      ·simp [hk'] at h
      refine G1 g ?_;try with_reducible exact tt
      refine CallS.pu (h1) (R1 g ?_);try with_reducible exact tt
      refine CallS.pu (h2) (R1 g ?_);try with_reducible exact tt
     ·have hs':¬(y:Int)=S:=by omega
      refine G1 (fs g (fs hk (fs hk' (fs hy (fs hy' (fs hs hs')))))) ?_;try with_reducible exact tt
      refine CallS.pu (hc) (R1 (fs g (fs hk (fs hk' (fs hy (fs hy' (fs hs hs')))))) ?_);try with_reducible exact tt
      refine AW.cond rfl (fun h=>?_) (fun h=>?_)
      ·simp at h
      refine G1 (fs g (fs hk (fs hk' (fs hy (fs hy' (fs hs hs')))))) ?_;try with_reducible exact tt
      refine AW.cond rfl (fun h=>?_) (fun h=>?_)
      ·simp [hk'] at h
      refine G1 g ?_;try with_reducible exact tt
      refine CallS.pu (h1) (R1 g ?_);try with_reducible exact tt
      refine CallS.pu (h2) (R1 (fs g (fs hy (fs hy' (fs hs hs')))) ?_);try with_reducible exact tt
      exact Sub1.bool (by rw [Bool.eq_iff_iff];simp;omega)
    | false =>
     refine G1 (fs g (fs hk (fs hk' (fs hy hy')))) ?_;try with_reducible exact tt
     refine CallS.pu (hc) (R1 (fs g (fs hk (fs hk' (fs hy hy')))) ?_);try with_reducible exact tt
     refine AW.cond rfl (fun h=>?_) (fun h=>?_)
     ·simp at h
     refine G1 (fs g (fs hk (fs hk' (fs hy hy')))) ?_;try with_reducible exact tt
     refine AW.cond rfl (fun h=>?_) (fun h=>?_)
     ·simp [hk'] at h
     refine G1 g ?_;try with_reducible exact tt
     refine CallS.pu (h1) (R1 g ?_);try with_reducible exact tt
     refine CallS.pu (h2) (R1 (fs g (fs hy hy')) ?_);try with_reducible exact tt
   ·have hy':¬(y:Int)≤S:=by omega
    refine G1 (fs g (fs hk (fs hk' (fs hy hy')))) ?_;try with_reducible exact tt
    refine CallS.pu (hc) (R1 (fs g (fs hk (fs hk' (fs hy hy')))) ?_);try with_reducible exact tt
    refine AW.cond rfl (fun h=>?_) (fun h=>?_)
    ·simp at h
    refine G1 (fs g (fs hk (fs hk' (fs hy hy')))) ?_;try with_reducible exact tt
    refine AW.cond rfl (fun h=>?_) (fun h=>?_)
    ·simp [hk'] at h
    refine G1 g ?_;try with_reducible exact tt
    refine CallS.pu (h1) (R1 g ?_);try with_reducible exact tt
    refine CallS.pu (h2) (R1 (fs g (fs hy hy')) ?_);try with_reducible exact tt
  ·have ht':¬(t:Int)=0:=by omega
   refine G1 (fs g (fs hk (fs hk' (fs ht ht')))) ?_;try with_reducible exact tt
   refine CallS.pu (hc) (R1 (fs g (fs hk (fs hk' (fs ht ht')))) ?_);try with_reducible exact tt
   refine AW.cond rfl (fun h=>?_) (fun h=>?_)
   ·simp at h
   refine G1 (fs g (fs hk (fs hk' (fs ht ht')))) ?_;try with_reducible exact tt
   refine AW.cond rfl (fun h=>?_) (fun h=>?_)
   ·simp [hk'] at h
   refine G1 g ?_;try with_reducible exact tt
   refine CallS.pu (h1) (R1 g ?_);try with_reducible exact tt
   refine CallS.pu (h2) (R1 (fs g (fs ht ht')) ?_);try with_reducible exact tt
   exact Sub1.bool (by simp [ht])

theorem o_uf {k a b y t:Nat} {f:Bool} (h:GoodR k a b) (hw:WellR k a b y t f):Eqn Tryz.prog o_94 [.d (parD k a b),.d (.sl 1 [.int .i64 y,.int .i64 t,.bool f])] [] (.d (.int .i64 0)) []:=by
 refine Eqn.pure o_96 Plain.ok ?_
 have hc:=o_uc h
 have hw1:=o_ue h y t f
 rw [o_ud.2 hw] at hw1
 refine cc (c':=?z154) ?_ ?_
 case refine_1=>cbv<;>exact rfl
 try simp only [parD,tsD] at hc hw1 ⊢
 refine G0 ?_;try with_reducible exact tt
 refine CallS.pu (hc) (R0 ?_);try with_reducible exact tt
 refine AW.cond rfl (fun h=>?_) (fun h=>?_)
 ·simp at h
 refine G0 ?_;try with_reducible exact tt
 refine AW.loopT (α:=Nat) 1 (fun i=>[(15,.d (.int .i64 (i:Int)))]) (fun i=>[]) (fun i=>i≤1) (fun i=>1-i) 0 ?_ ?_ (Nat.zero_le _) ?_ ?_ ?_
 ·simp
 ·simp
 ·simp
 ·simp
 rintro i hi
 simp
 have hi':i=0∨i=1:=by omega
 rcases hi' with rfl | rfl
 ·refine G0 ?_;try with_reducible exact tt
  refine AW.cond rfl (fun h=>?_) (fun h=>?_)
  ·refine G0 ?_;try with_reducible exact tt
   refine CallS.pu (hw1) (R0 ?_);try with_reducible exact tt
   refine AW.cond rfl (fun h=>?_) (fun h=>?_)
   ·simp at h
   have ew:IntKind.i64.wrap 1=1:=w64 (by omega) (by omega)
   refine G1 ew ?_;try with_reducible exact tt
   exact ⟨1,by omega,by omega,by simp⟩
  ·simp at h
 ·refine G0 ?_;try with_reducible exact tt
  refine AW.cond rfl (fun h=>?_) (fun h=>?_)
  ·simp at h
  refine AW.exit ?_
  (try (simp -implicitDefEqProofs;try simp (disch:=omega) only [w64,wu64]))
  refine G0 ?_;try with_reducible exact tt

theorem o_ug {k a b y t z u:Nat} {f g:Bool} (h:GoodR k a b) (hw:WellR k a b y t f) (hv:WellR k a b z u g):Eqn Tryz.prog o_94 [.d (parD k a b),.d (.sl 2 [.int .i64 y,.int .i64 t,.bool f,.int .i64 z,.int .i64 u,.bool g])] [] (.d (.int .i64 0)) []:=by
 refine Eqn.pure o_96 Plain.ok ?_
 have hc:=o_uc h
 have hw1:=o_ue h y t f
 have hw2:=o_ue h z u g
 rw [o_ud.2 hw] at hw1
 rw [o_ud.2 hv] at hw2
 refine cc (c':=?z155) ?_ ?_
 case refine_1=>cbv<;>exact rfl
 try simp only [parD,tsD] at hc hw1 hw2 ⊢
 refine G0 ?_;try with_reducible exact tt
 refine CallS.pu (hc) (R0 ?_);try with_reducible exact tt
 refine AW.cond rfl (fun h=>?_) (fun h=>?_)
 ·simp at h
 refine G0 ?_;try with_reducible exact tt
 refine AW.loopT (α:=Nat) 1 (fun i=>[(15,.d (.int .i64 (i:Int)))]) (fun i=>[]) (fun i=>i≤2) (fun i=>2-i) 0 ?_ ?_ (Nat.zero_le _) ?_ ?_ ?_
 ·simp
 ·simp
 ·simp
 ·simp
 rintro i hi
 simp
 have hi':i=0∨i=1∨i=2:=by omega
 rcases hi' with rfl | rfl | rfl
 ·refine G0 ?_;try with_reducible exact tt
  refine AW.cond rfl (fun h=>?_) (fun h=>?_)
  ·refine G0 ?_;try with_reducible exact tt
   refine CallS.pu (hw1) (R0 ?_);try with_reducible exact tt
   refine AW.cond rfl (fun h=>?_) (fun h=>?_)
   ·simp at h
   have ew:IntKind.i64.wrap 1=1:=w64 (by omega) (by omega)
   refine G1 ew ?_;try with_reducible exact tt
   exact ⟨1,by omega,by omega,by simp⟩
  ·simp at h
 ·refine G0 ?_;try with_reducible exact tt
  refine AW.cond rfl (fun h=>?_) (fun h=>?_)
  ·refine G0 ?_;try with_reducible exact tt
   refine CallS.pu (hw2) (R0 ?_);try with_reducible exact tt
   refine AW.cond rfl (fun h=>?_) (fun h=>?_)
   ·simp at h
   have ew:IntKind.i64.wrap 2=2:=w64 (by omega) (by omega)
   refine G1 ew ?_;try with_reducible exact tt
   exact ⟨2,by omega,by omega,by simp⟩
  ·simp at h
 ·refine G0 ?_;try with_reducible exact tt
  refine AW.cond rfl (fun h=>?_) (fun h=>?_)
  ·simp at h
  refine AW.exit ?_
  (try (simp -implicitDefEqProofs;try simp (disch:=omega) only [w64,wu64]))
  refine G0 ?_;try with_reducible exact tt
end
end Go.Proofs.YtidfejfgmlakpaaGreat.Am
