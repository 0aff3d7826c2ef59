/- Parts of the proof: ChainA, ChainM, ChainB, ChainC, ChainD, ChainE, Chain9, ChainF, ThinM, Thin1, Thin2, Thin3, Reg1, BitsM, Bits1, Bits2, Bits3, Reg2, Reg3, Reg4, PackM, Pack1, Pack2, Carr1, Carr2, Carr3, Carr6, AmUn, Cms1, Dec1, Dec2, Dec3, Dec4, Dec5, HashM, Dec6, RtA, RtB, DecT, RtC, FlatM, Float3, Rise1, Val1, MorM, Mor1, SortL, DecP, YuP, Reg5, ChainG, ChainH, AmLaw, Reg6, AmCu, AmFm, Val2, Val3, AmTT, TabL, PmfM, PmfN, Pmf1, Pmf4, Pmf2, Pmf3, Pmf5, Pmf6, Pmf7, SortK, SortM, SortO, Pmf8, PmfG. -/
import Derived.Test.YtabnkmpkcfjkmaaGreatDoorPd
set_option linter.unusedVariables false
set_option linter.unusedSimpArgs false
set_option maxRecDepth 100000
namespace Go.Proofs.YtabnkmpkcfjkmaaGreatDoor.Am
section
open Go.RowKit
abbrev AgT:=Nat→Nat→Nat→Bool→Bool×Int×Nat×Bool
def agOf (cs:List Bool) (k a:Nat):AgT:=fun x r p dd=>if k=1 then powerR cs a (a+1) (x-r) p dd else if k=2 then halfR cs (x/2^a-r/2^a) p dd else halfR cs ((placeY a x).shift-(placeY a r).shift) p dd

theorem all2 {d k r:Nat} (hd:1≤d∧d≤4096) (hk:k≤1023) (hr:r≤1023):wrongM d [(k:Int),(r:Int)]=0:=by
 unfold wrongM
 rw [if_pos (by omega)]
 simp [okK];omega
theorem o_yh (cs:List Bool) (a k r p:Nat) (dd:Bool) (h1:1≤a) (h2:a≤4096) (hk:k≤1023) (hr:r≤1023) (hp:p≤cs.length) (hn:cs.length≤4000000) :
  Eqn Tryz.prog o_k2 [.p 0 0,.d (.int .i64 a),.d (.int .i64 k),.d (.int .i64 r)] [tapeO cs p dd] (.tup [.d (.bool (powerR cs a (a+1) (k-r) p dd).1),.d (.int .i64 (powerR cs a (a+1) (k-r) p dd).2.1)]) [tapeO cs (powerR cs a (a+1) (k-r) p dd).2.2.1 (powerR cs a (a+1) (k-r) p dd).2.2.2]:=by
 refine Eqn.obj1 o_k4 (o_ol _ _) ⟨rfl,fun _=>rfl⟩ ?_
 refine cc (c':=?z126) ?_ ?_
 case refine_1=>cbv<;>exact rfl
 have hw:=o_vc a [(k:Int),(r:Int)] (by simp)
 rw [all2 ⟨h1,h2⟩ hk hr] at hw
 have hh:=o_vg cs a ((k:Int)-r) p dd h1 h2 (by omega) hp hn
 rw [show ((k:Int)-r).toNat=k-r by omega] at hh
 generalize powerR cs a (a+1) (k-r) p dd=R at *
 obtain ⟨R1,R2,R3,R4⟩:=R
 simp only at hh ⊢
 have ew:IntKind.i64.wrap ((k:Int)-r)=(k:Int)-r:=w64 (by omega) (by omega)
 refine G0B ?_;try with_reducible exact tt
 refine CallS.pf 1 1 ⟨3,_⟩ [.int .i64 k,.int .i64 r] (hw) (by first | rfl | (simp [-Bool.exists_bool];done)) (R0B ?_);try with_reducible exact tt
 refine AW.cond rfl (fun h=>?_) (fun h=>?_)
 ·simp at h
 refine G1B ew ?_;try with_reducible exact tt
 try simp only [ew]
 refine CallS.o1 0 (hh) (R0B ?_);try with_reducible exact tt

theorem all2f {d k r:Nat} (hd:d≤8) (hk:k≤1023) (hr:r≤1023):wrongZ d [(k:Int),(r:Int)]=0:=by
 unfold wrongZ
 rw [if_pos (by omega)]
 simp [okK];omega
theorem o_yi (cs:List Bool) (d k j p:Nat) (dd:Bool) (h1:d≤8) (hk:k≤1023) (hr:j≤1023) (hp0:p≤cs.length) (hn:cs.length≤4000000) (R:Bool×Int×Nat×Bool) (hR:R=halfR cs (k/2^d-j/2^d) p dd) :
  Eqn Tryz.prog o_lb [.p 0 0,.d (.int .i64 d),.d (.int .i64 k),.d (.int .i64 j)] [tapeO cs p dd] (.tup [.d (.bool R.1),.d (.int .i64 R.2.1)]) [tapeO cs R.2.2.1 R.2.2.2]:=by
 refine Eqn.obj1 o_ld (o_ol _ _) ⟨rfl,fun _=>rfl⟩ ?_
 refine cc (c':=?z127) ?_ ?_
 case refine_1=>cbv<;>exact rfl
 have hw:=o_v3 d k j
 rw [all2f h1 hk hr] at hw
 have hq:=o_v1 d k (by omega) (by omega)
 have hq':=o_v1 d j (by omega) (by omega)
 have hu:k/2^d≤k:=Nat.div_le_self _ _
 have hu':j/2^d≤j:=Nat.div_le_self _ _
 generalize k/2^d=u at *
 generalize j/2^d=u' at *
 generalize partV d k=v at hq
 generalize partV d j=v' at hq'
 have ew:IntKind.i64.wrap ((u:Int)-u')=(u:Int)-u':=w64 (by omega) (by omega)
 have hh:=o_uy cs p dd ((u:Int)-u') (by omega) hp0 hn
 rw [show ((u:Int)-u').toNat=u-u' by omega,←hR] at hh
 clear hR
 obtain ⟨r1,r2,r3,r4⟩:=R
 simp only at hh ⊢
 refine G0B ?_;try with_reducible exact tt
 refine CallS.pf 1 1 ⟨3,_⟩ [.int .i64 k,.int .i64 j] (hw) (by first | rfl | (simp [-Bool.exists_bool];done)) (R0B ?_);try with_reducible exact tt
 refine AW.cond rfl (fun h=>?_) (fun h=>?_)
 ·simp at h
 refine G0B ?_;try with_reducible exact tt
 refine CallS.pu (hq) (R0B ?_);try with_reducible exact tt
 refine CallS.pu (hq') (R0B ?_);try with_reducible exact tt
 try simp only [ew]
 refine CallS.o1 0 (hh) (R0B ?_);try with_reducible exact tt

theorem o_yj (cs:List Bool) (s k j p:Nat) (dd:Bool) (h1:1≤s) (h2:s≤5) (hk:k≤1023) (hr:j≤1023) (hp0:p≤cs.length) (hn:cs.length≤4000000) (R:Bool×Int×Nat×Bool) (hR:R=halfR cs ((placeY s k).shift-(placeY s j).shift) p dd) :
  Eqn Tryz.prog o_m5 [.p 0 0,.d (.int .i64 s),.d (.int .i64 k),.d (.int .i64 j)] [tapeO cs p dd] (.tup [.d (.bool R.1),.d (.int .i64 R.2.1)]) [tapeO cs R.2.2.1 R.2.2.2]:=by
 refine Eqn.obj1 o_m7 (o_ol _ _) ⟨rfl,fun _=>rfl⟩ ?_
 refine cc (c':=?z128) ?_ ?_
 case refine_1=>cbv<;>exact rfl
 have ha:=o_xa s k h1 h2 hk
 have hb:=o_xa s j h1 h2 hr
 have b1:(placeY s k).shift≤8192:=(o_x2 (s:=s) (k:=k) (by omega) (by omega) (by omega)).2.1
 have b2:(placeY s j).shift≤8192:=(o_x2 (s:=s) (k:=j) (by omega) (by omega) (by omega)).2.1
 generalize placeY s k=P at *
 generalize placeY s j=q at *
 obtain ⟨px,ps,pv,pr⟩:=P
 obtain ⟨qx,qs,qv,qr⟩:=q
 simp only [plD] at ha hb b1 b2 hR
 have ew:IntKind.i64.wrap ((ps:Int)-qs)=(ps:Int)-qs:=w64 (by omega) (by omega)
 have hh:=o_uy cs p dd ((ps:Int)-qs) (by omega) hp0 hn
 rw [show ((ps:Int)-qs).toNat=ps-qs by omega,←hR] at hh
 clear hR
 obtain ⟨r1,r2,r3,r4⟩:=R
 simp only at hh ⊢
 refine G0B ?_;try with_reducible exact tt
 refine CallS.pu (ha) (R0B ?_);try with_reducible exact tt
 refine AW.cond rfl (fun h=>?_) (fun h=>?_)
 ·simp at h
 refine G0B ?_;try with_reducible exact tt
 refine CallS.pu (hb) (R0B ?_);try with_reducible exact tt
 refine AW.cond rfl (fun h=>?_) (fun h=>?_)
 ·simp at h
 refine G1B ew ?_;try with_reducible exact tt
 try simp only [ew]
 refine CallS.o1 0 (hh) (R0B ?_);try with_reducible exact tt

structure AgainOf (cs:List Bool) (ti:TypeId) (d:D) (g:FuncId) (ag:AgT):Prop where
 meth : MethOK Tryz.prog ti "tallymark/chain.again" g
 run:∀(x r p:Nat) (dd:Bool),x≤1023→r≤1023→p≤cs.length→Eqn Tryz.prog g [.d d,.p 0 0,.d (.int .i64 x),.d (.int .i64 r)] [tapeO cs p dd] (.tup [.d (.bool (ag x r p dd).1),.d (.int .i64 (ag x r p dd).2.1)]) [tapeO cs (ag x r p dd).2.2.1 (ag x r p dd).2.2.2]
 le:∀(x r p:Nat) (dd:Bool),p≤cs.length→(ag x r p dd).2.2.1≤cs.length

theorem o_yk : MethOK Tryz.prog 162 "tallymark/chain.again" o_jq := fun v w => by kernel_rfl
theorem o_yl : MethOK Tryz.prog 163 "tallymark/chain.again" o_kz := fun v w => by kernel_rfl
theorem o_ym : MethOK Tryz.prog 164 "tallymark/chain.again" o_lt := fun v w => by kernel_rfl

theorem o_yn (cs:List Bool) (a k r p:Nat) (dd:Bool) (R:Bool×Int×Nat×Bool) (hh:Eqn Tryz.prog o_k2 [.p 0 0,.d (.int .i64 a),.d (.int .i64 k),.d (.int .i64 r)] [tapeO cs p dd] (.tup [.d (.bool R.1),.d (.int .i64 R.2.1)]) [tapeO cs R.2.2.1 R.2.2.2]) :
  Eqn Tryz.prog o_jq [.d (.int .i64 a),.p 0 0,.d (.int .i64 k),.d (.int .i64 r)] [tapeO cs p dd] (.tup [.d (.bool R.1),.d (.int .i64 R.2.1)]) [tapeO cs R.2.2.1 R.2.2.2]:=by
 refine Eqn.obj1 o_js (o_ol _ _) ⟨rfl,fun _=>rfl⟩ ?_
 refine cc (c':=?z129) ?_ ?_
 case refine_1=>cbv<;>exact rfl
 obtain ⟨R1,R2,R3,R4⟩:=R
 simp only at hh ⊢
 refine G0B ?_;try with_reducible exact tt
 refine CallS.o1 0 (hh) (R0B ?_);try with_reducible exact tt
theorem o_yo (cs:List Bool) (a k r p:Nat) (dd:Bool) (R:Bool×Int×Nat×Bool) (hh:Eqn Tryz.prog o_lb [.p 0 0,.d (.int .i64 a),.d (.int .i64 k),.d (.int .i64 r)] [tapeO cs p dd] (.tup [.d (.bool R.1),.d (.int .i64 R.2.1)]) [tapeO cs R.2.2.1 R.2.2.2]) :
  Eqn Tryz.prog o_kz [.d (.int .i64 a),.p 0 0,.d (.int .i64 k),.d (.int .i64 r)] [tapeO cs p dd] (.tup [.d (.bool R.1),.d (.int .i64 R.2.1)]) [tapeO cs R.2.2.1 R.2.2.2]:=by
 refine Eqn.obj1 o_l1 (o_ol _ _) ⟨rfl,fun _=>rfl⟩ ?_
 refine cc (c':=?z130) ?_ ?_
 case refine_1=>cbv<;>exact rfl
 obtain ⟨R1,R2,R3,R4⟩:=R
 simp only at hh ⊢
 refine G0B ?_;try with_reducible exact tt
 refine CallS.o1 0 (hh) (R0B ?_);try with_reducible exact tt
theorem o_yp (cs:List Bool) (a k r p:Nat) (dd:Bool) (R:Bool×Int×Nat×Bool) (hh:Eqn Tryz.prog o_m5 [.p 0 0,.d (.int .i64 a),.d (.int .i64 k),.d (.int .i64 r)] [tapeO cs p dd] (.tup [.d (.bool R.1),.d (.int .i64 R.2.1)]) [tapeO cs R.2.2.1 R.2.2.2]) :
  Eqn Tryz.prog o_lt [.d (.int .i64 a),.p 0 0,.d (.int .i64 k),.d (.int .i64 r)] [tapeO cs p dd] (.tup [.d (.bool R.1),.d (.int .i64 R.2.1)]) [tapeO cs R.2.2.1 R.2.2.2]:=by
 refine Eqn.obj1 o_lv (o_ol _ _) ⟨rfl,fun _=>rfl⟩ ?_
 refine cc (c':=?z131) ?_ ?_
 case refine_1=>cbv<;>exact rfl
 obtain ⟨R1,R2,R3,R4⟩:=R
 simp only at hh ⊢
 refine G0B ?_;try with_reducible exact tt
 refine CallS.o1 0 (hh) (R0B ?_);try with_reducible exact tt
end
section
open Go.RowKit
theorem o_yq {T1 t2 T3 ti : TypeId} (h1 : T1 < 1000000) (h2 : t2 < 1000000) (h3 : T3 < 1000000) {d : D} {g : FuncId} {cs : List Bool} {k r : Int} {p : Nat} {dd r1 : Bool} {r2 : Int} {r3 : Nat} {r4 : Bool} (hm : MethOK Tryz.prog ti "tallymark/chain.again" g)
  (E:Eqn Tryz.prog g [.d d,.p 0 0,.d (.int .i64 k),.d (.int .i64 r)] [tapeO cs p dd] (.tup [.d (.bool r1),.d (.int .i64 r2)]) [tapeO cs r3 r4]) :
  Eqn Tryz.prog o_8p [.d (.int .i64 k),.p 1 0,.p 2 0,.p 3 0] [tapeO cs p dd,⟨T1,[.d (.ifc ti d)]⟩,⟨t2,[.p 0 0]⟩,⟨T3,[.d (.int .i64 r)]⟩] (.tup [.d (.bool r1),.d (.int .i64 r2)]) [tapeO cs r3 r4,⟨T1,[.d (.ifc ti d)]⟩,⟨t2,[.p 0 0]⟩,⟨T3,[.d (.int .i64 r)]⟩]:=by
 refine Eqn.gen [0,1,2,3] o_8r (by simp) (by simp) (by rfl) (by decide) (by simp) (by simp) ?_
 refine cc (c':=?z132) ?_ ?_
 case refine_1=>cbv<;>exact rfl
 refine G1B (fs h1 (fs h2 h3)) ?_;try with_reducible exact tt
 refine ⟨_,hm,?_⟩
 refine CallS.o1 0 (E) (R1B (fs h1 (fs h2 h3)) ?_);try with_reducible exact tt

theorem o_yr {T1 t2 T3 ti:TypeId} (h1:T1<1000000) (h2:t2<1000000) (h3:T3<1000000) {d:D} {cs:List Bool} {p:Nat} {dd:Bool} (k a r:Int) (w:Nat) (w2:w≤10) (full:Bool) (hc:Eqn Tryz.prog o_84 [.d (parD k a w)] [] (.d (.int .i64 0)) []) :
  Eqn Tryz.prog o_8j [.d (parD k a w),.d (.agg [.int .i64 (2^w-1:Nat),.bool full]),.fn (.func o_8p) [.p 1 0,.p 2 0,.p 3 0]] [tapeO cs p dd,⟨T1,[.d (.ifc ti d)]⟩,⟨t2,[.p 0 0]⟩,⟨T3,[.d (.int .i64 r)]⟩] (.tup [.d (.agg [.int .i64 (2^w-1:Nat),.bool true]),.d (.int .i64 0)]) [tapeO cs p dd,⟨T1,[.d (.ifc ti d)]⟩,⟨t2,[.p 0 0]⟩,⟨T3,[.d (.int .i64 r)]⟩]:=by
 refine Eqn.gen [0,1,2,3] o_8l (by simp) (by simp) (by rfl) (by decide) (by simp) (by simp) ?_
 have ht:=o_xs k a w w2 hc
 refine cc (c':=?z133) ?_ ?_
 case refine_1=>cbv<;>exact rfl
 try simp only [parD] at ht ⊢
 generalize 2^w-1=S at *
 refine G1B (fs h1 (fs h2 h3)) ?_;try with_reducible exact tt
 refine CallS.pu (ht) (R1B (fs h1 (fs h2 h3)) ?_);try with_reducible exact tt
 refine AW.cond rfl (fun h=>?_) (fun h=>?_)
 ·clear h
  refine G1B (fs h1 (fs h2 h3)) ?_;try with_reducible exact tt
 ·simp at h

theorem o_ys {T1 t2 T3 ti:TypeId} (h1:T1<1000000) (h2:t2<1000000) (h3:T3<1000000) {d:D} {g:FuncId} {cs:List Bool} {x p:Nat} {dd r1:Bool} {r2:Int} {r3:Nat} {r4:Bool} (k a r:Int) (w:Nat) (w2:w≤10) (full:Bool) (hx:x<2^w-1) (hc:Eqn Tryz.prog o_84 [.d (parD k a w)] [] (.d (.int .i64 0)) [])
  (hm : MethOK Tryz.prog ti "tallymark/chain.again" g) (E : Eqn Tryz.prog g [.d d, .p 0 0, .d (.int .i64 x), .d (.int .i64 r)] [tapeO cs p dd] (.tup [.d (.bool r1), .d (.int .i64 r2)]) [tapeO cs r3 r4]) :
  Eqn Tryz.prog o_8j [.d (parD k a w),.d (.agg [.int .i64 x,.bool full]),.fn (.func o_8p) [.p 1 0,.p 2 0,.p 3 0]] [tapeO cs p dd,⟨T1,[.d (.ifc ti d)]⟩,⟨t2,[.p 0 0]⟩,⟨T3,[.d (.int .i64 r)]⟩] (.tup [.d (.agg [.int .i64 (if r1 then x+1 else x:Nat),.bool full]),.d (.int .i64 r2)]) [tapeO cs r3 r4,⟨T1,[.d (.ifc ti d)]⟩,⟨t2,[.p 0 0]⟩,⟨T3,[.d (.int .i64 r)]⟩]:=by
 refine Eqn.gen [0,1,2,3] o_8l (by simp) (by simp) (by rfl) (by decide) (by simp) (by simp) ?_
 have ht:=o_xs k a w w2 hc
 have h5:2^w-1≤1023:=by have:=Nat.pow_le_pow_right (n:=2) (by omega) w2;omega
 refine cc (c':=?z134) ?_ ?_
 case refine_1=>cbv<;>exact rfl
 try simp only [parD] at ht ⊢
 generalize 2^w-1=S at *
 have g1:¬x=S:=by omega
 have g2:¬(x:Int)=S:=by omega
 have ew:IntKind.i64.wrap ((x:Int)+1)=(x:Int)+1:=w64 (by omega) (by omega)
 have ha:=o_yq (T1:=T1) (t2:=t2) (T3:=T3) h1 h2 h3 hm E
 refine G1B (fs h1 (fs h2 h3)) ?_;try with_reducible exact tt
 refine CallS.pu (ht) (R1B (fs h1 (fs h2 h3)) ?_);try with_reducible exact tt
 refine AW.cond rfl (fun h=>?_) (fun h=>?_)
 ·simp [g1,g2] at h
 clear h
 refine G1B (fs h1 (fs h2 h3)) ?_;try with_reducible exact tt
 refine CallS.g [0,1,2,3] (ha) (R1B (fs h1 (fs h2 h3)) ?_);try with_reducible exact tt
 cases r1 with
 | true =>
  refine AW.cond rfl (fun h=>?_) (fun h=>?_)
  ·refine G1B (fs ew (fs h1 (fs h2 h3))) ?_;try with_reducible exact tt
  ·simp at h
 | false =>
  refine AW.cond rfl (fun h=>?_) (fun h=>?_)
  ·simp at h
  ·refine G1B (fs ew (fs h1 (fs h2 h3))) ?_;try with_reducible exact tt

def mergeL (ag:AgT) (top:Nat):Nat→Nat→Nat→Bool→Nat→Bool→Int×Nat×Bool×Nat×Bool
 | 0,_,x,f,p,d=>(0,x,f,p,d)
 | n+1,r,x,f,p,d =>
  if x=top then mergeL ag top n (r+1) x true p d
  else if (ag x r p d).2.1=0 then mergeL ag top n (r+1) (if (ag x r p d).1 then x+1 else x) f (ag x r p d).2.2.1 (ag x r p d).2.2.2
  else ((ag x r p d).2.1,x,f,(ag x r p d).2.2.1,(ag x r p d).2.2.2)

theorem o_yt (k a:Int) (w:Nat) (w2:w≤10) (x y:Int) (h0:0≤x) (h1:x≤(2^w-1:Nat)) (h2:0≤y) (h3:y≤(2^w-1:Nat)) (hc:Eqn Tryz.prog o_84 [.d (parD k a w)] [] (.d (.int .i64 0)) []):Eqn Tryz.prog o_8d [.d (parD k a w),.d (.sl 2 [.int .i64 x,.int .i64 y])] [] (.d (.int .i64 0)) []:=by
 refine Eqn.pure o_8f (o_5e _) ?_
 have ht:=o_xs k a w w2 hc
 refine cc (c':=?z135) ?_ ?_
 case refine_1=>cbv<;>exact rfl
 try simp only [parD] at hc ht ⊢
 generalize 2^w-1=S at *
 refine G0 ?_;try with_reducible exact tt
 refine CallS.pu (hc) (R0 ?_);try with_reducible exact tt
 refine AW.cond rfl (fun h=>?_) (fun h=>?_)
 ·simp at h
 refine G0 ?_;try with_reducible exact tt
 refine AW.loopT (α:=Nat) 1 (fun i=>[(15,.d (.int .i64 (i:Int)))]) (fun i=>[]) (fun i=>i≤2) (fun i=>2-i) 0 ?_ ?_ (Nat.zero_le _) ?_ ?_ ?_
 ·simp
 ·simp
 ·simp
 ·simp
 rintro i hi
 simp
 have g1:¬x<0:=by omega
 have g2:¬(S:Int)<x:=by omega
 have g3:¬y<0:=by omega
 have g4:¬(S:Int)<y:=by omega
 by_cases h:i=2
 ·subst h
  refine G0 ?_;try with_reducible exact tt
  refine AW.cond rfl (fun h=>?_) (fun h=>?_)
  ·simp at h
  refine AW.exit ?_
  (try (simp -implicitDefEqProofs;try simp (disch:=omega) only [w64,wu64]))
  refine G0 ?_;try with_reducible exact tt
 ·have hi':i=0∨i=1:=by omega
  rcases hi' with rfl | rfl
  ·refine G0 ?_;try with_reducible exact tt
   refine AW.cond rfl (fun h=>?_) (fun h=>?_)
   ·refine G1 (fs g1 g2) ?_;try with_reducible exact tt
    refine CallS.pu (ht) (R1 (fs g1 g2) ?_);try with_reducible exact tt
    refine AW.cond rfl (fun h=>?_) (fun h=>?_)
    ·simp [g1,g2] at h
    have ew:IntKind.i64.wrap 1=1:=w64 (by omega) (by omega)
    refine G1 ew ?_;try with_reducible exact tt
    exact ⟨1,by omega,by omega,by simp⟩
   ·simp at h
  ·refine G0 ?_;try with_reducible exact tt
   refine AW.cond rfl (fun h=>?_) (fun h=>?_)
   ·refine G1 (fs g3 g4) ?_;try with_reducible exact tt
    refine CallS.pu (ht) (R1 (fs g3 g4) ?_);try with_reducible exact tt
    refine AW.cond rfl (fun h=>?_) (fun h=>?_)
    ·simp [g3,g4] at h
    have ew:IntKind.i64.wrap 2=2:=w64 (by omega) (by omega)
    refine G1 ew ?_;try with_reducible exact tt
    exact ⟨2,by omega,by omega,by simp⟩
   ·simp at h

theorem o_yu (cs:List Bool) (k a:Int) (w:Nat) (w2:w≤10) (ti:TypeId) (d:D) (g:FuncId) (ag:AgT) (hst:AgainOf cs ti d g ag) (hk:kindD k a = .ifc ti d) (hc:Eqn Tryz.prog o_84 [.d (parD k a w)] [] (.d (.int .i64 0)) [])
  (x:Nat) (hx:x≤2^w-1) (f:Bool) (n:Nat) (hn:n≤2^w-1) (fo:Bool) (p:Nat) (dd:Bool) (hp:p≤cs.length) (S:Int×Nat×Bool×Nat×Bool) (hS:S=mergeL ag (2^w-1) n 0 x f p dd) :
  Eqn Tryz.prog o_7a [.d (parD k a w),.p 0 0,.d (.agg [.int .i64 x,.bool f]),.d (.agg [.int .i64 n,.bool fo])] [tapeO cs p dd] (.tup [.d (.agg [.int .i64 (if S.1=0 then S.2.1 else x:Nat),.bool (if S.1=0 then S.2.2.1 || fo else f)]),.d (.int .i64 S.1)]) [tapeO cs S.2.2.2.1 S.2.2.2.2]:=by
 refine Eqn.obj1 o_7c (o_ol _ _) ⟨rfl,fun _=>rfl⟩ ?_
 have hat:=o_yt k a w w2 x n (by omega) (by omega) (by omega) (by omega) hc
 have hkd:=o_wj k a w
 rw [hk] at hkd
 refine cc (c':=?z136) ?_ ?_
 case refine_1=>cbv<;>exact rfl
 try simp only [parD] at hat ⊢
 have hmx:∀(T1 t2 T3:TypeId) (h1:T1<1000000) (h2:t2<1000000) (h3:T3<1000000) (i z q:Nat) (b y:Bool),z<2^w-1→i≤1023→q≤cs.length→_:=fun T1 t2 T3 h1 h2 h3 i z q b y hz hi hq=>o_ys (T1:=T1) (t2:=t2) (T3:=T3) h1 h2 h3 k a i w w2 y hz hc hst.meth (hst.run z i q b (by have:=Nat.pow_le_pow_right (n:=2) (by omega) w2;omega) hi hq)
 have hmt:=fun (T1 t2 T3:TypeId) (h1:T1<1000000) (h2:t2<1000000) (h3:T3<1000000) (i q:Nat) (b y:Bool)=>o_yr (T1:=T1) (t2:=t2) (T3:=T3) h1 h2 h3 (ti:=ti) (d:=d) (cs:=cs) (p:=q) (dd:=b) k a i w w2 y hc
 have hle:=hst.le
 have h2:2^w-1≤1023:=by have:=Nat.pow_le_pow_right (n:=2) (by omega) w2;omega
 simp only [parD] at hmx hmt
 generalize 2^w-1=W at *
 refine G0B ?_;try with_reducible exact tt
 refine CallS.pf 6 1 ⟨3,_⟩ [.int .i64 x,.int .i64 n] (hat) (by first | rfl | (simp [-Bool.exists_bool];done)) (R0B ?_);try with_reducible exact tt
 refine AW.cond rfl (fun h=>?_) (fun h=>?_)
 ·simp at h
 clear h
 refine G0B ?_;try with_reducible exact tt
 refine CallS.pu (hkd) (R0B ?_);try with_reducible exact tt
 refine AW.loopT (α:=Nat×Nat×Bool×Nat×Bool) 9 (fun s=>[(31,.d (.int .i64 (s.1:Int)))]) (fun s=>[(0,tapeO cs s.2.2.2.1 s.2.2.2.2),(8,⟨34,[.d (.int .i64 (s.2.1:Nat)),.d (.bool s.2.2.1)]⟩)]) (fun s=>s.1≤n∧s.2.1≤W∧s.2.2.2.1≤cs.length∧S=mergeL ag W (n-s.1) s.1 s.2.1 s.2.2.1 s.2.2.2.1 s.2.2.2.2) (fun s=>n-s.1) (0,x,f,p,dd) ?_ ?_ ⟨Nat.zero_le _,hx,hp,hS⟩ ?_ ?_ ?_
 ·simp
 ·simp
 ·simp
 ·simp
 rintro ⟨i,z,y,q,b⟩ ⟨hi,hz,hq,hS⟩
 simp only at hi hz hq hS
 simp [-Bool.exists_bool]
 by_cases h:i=n
 ·subst h
  rw [Nat.sub_self,mergeL] at hS
  refine G0B ?_;try with_reducible exact tt
  refine AW.cond rfl (fun h=>?_) (fun h=>?_)
  ·simp at h
  refine AW.exit ?_
  (try (simp -implicitDefEqProofs [-Bool.exists_bool];try simp (disch:=omega) only [w64,wu64]))
  cases y with
  | true =>
   refine G0B ?_;try with_reducible exact tt
   simp [hS]
  | false =>
   refine G0B ?_;try with_reducible exact tt
   simp [hS]
 ·have hlt:(i:Int)<n:=by omega
  have hlt':i<n:=by omega
  obtain ⟨r,hr⟩:∃r,n-i=r+1:=⟨n-i-1,by omega⟩
  have ew:IntKind.i64.wrap ((i:Int)+1)=(i:Int)+1:=w64 (by omega) (by omega)
  rw [hr,mergeL] at hS
  refine G1B (fs hlt hlt') ?_;try with_reducible exact tt
  refine AW.cond rfl (fun h=>?_) (fun h=>?_)
  ·clear h
   by_cases hzt:z=W
   ·subst hzt
    rw [if_pos rfl] at hS
    have hmt:=fun T1 t2 T3 h1 h2 h3=>hmt T1 t2 T3 h1 h2 h3 i q b y
    refine G0B ?_;try with_reducible exact tt
    refine CallS.g [0,7,2,9] (hmt 101 31 3 (by decide) (by decide) (by decide)) (R0B ?_);try with_reducible exact tt
    refine AW.cond rfl (fun h=>?_) (fun h=>?_)
    ·simp at h
    refine G1B ew ?_;try with_reducible exact tt
    exact ⟨i+1,z,true,q,b,⟨by omega,hz,hq,by rw [hS];congr 1;omega⟩,by omega,by simp⟩
   ·rw [if_neg hzt] at hS
    have hmx:=fun T1 t2 T3 h1 h2 h3=>hmx T1 t2 T3 h1 h2 h3 i z q b y (by omega) (by omega) hq
    have hle:=hle z i q b hq
    generalize ag z i q b=R at *
    obtain ⟨r1,r2,r3,r4⟩:=R
    simp only at hS hmx hle
    have hz':(if r1=true then z+1 else z)≤W:=by split<;>omega
    generalize (if r1=true then z+1 else z)=z' at *
    refine G0B ?_;try with_reducible exact tt
    refine CallS.g [0,7,2,9] (hmx 101 31 3 (by decide) (by decide) (by decide)) (R0B ?_);try with_reducible exact tt
    by_cases hr2:r2=0
    ·subst hr2
     rw [if_pos rfl] at hS
     refine AW.cond rfl (fun h=>?_) (fun h=>?_)
     ·simp at h
     refine G1B ew ?_;try with_reducible exact tt
     exact ⟨i+1,z',y,r3,r4,⟨by omega,hz',hle,by rw [hS];congr 1;omega⟩,by omega,by simp⟩
    ·rw [if_neg hr2] at hS
     refine AW.cond rfl (fun h=>?_) (fun h=>?_)
     ·refine G0B ?_;try with_reducible exact tt
      simp [hS,hr2]
     ·simp [hr2] at h
  ·simp [hlt'] at h
end
section
open Go.RowKit
end
section
open Go.RowKit
end
section
open Go.RowKit
structure Live (p:Nat) (R:Bool×Int×Nat×Bool):Prop where
 err:R.2.1=0∨R.2.1=8
 dead:R.2.2.2=true↔R.2.1≠0
 no:R.2.1≠0→R.1=false
 le:p≤R.2.2.1

theorem Live.mono {p q:Nat} {R:Bool×Int×Nat×Bool} (h:Live q R) (hq:p≤q):Live p R:=⟨h.err,h.dead,h.no,Nat.le_trans hq h.le⟩
theorem Live.ok {p:Nat} {R:Bool×Int×Nat×Bool} (h:Live p R) (h1:R.2.1=0):R.2.2.2=false:=by
 cases hd:R.2.2.2 with
 | false=>rfl
 | true=>exact absurd h1 (h.dead.1 hd)
end
section
open Go.RowKit
theorem o_yv : MethOK Tryz.prog 163 "tallymark/chain.chance" o_l2 := fun v w => by kernel_rfl
theorem o_yw : MethOK Tryz.prog 164 "tallymark/chain.chance" o_lw := fun v w => by kernel_rfl

def halfD (e:Nat):D:=.agg [natW 1,.bool false,natW (2^e-1)]
def expOf (k a x:Nat):Nat:=if k=2 then x/2^a else (placeY a x).shift

theorem o_yx (d k:Nat) (hd:d≤8) (hk:k≤1023) (hu:k/2^d<64):Eqn Tryz.prog o_l2 [.d (.int .i64 d),.d (.int .i64 k)] [] (.tup [.d (halfD (k/2^d)),.d (.int .i64 0)]) []:=by
 refine Eqn.pure o_l4 (o_ol _ _) ?_
 have h:=o_xd d k hd hk hu
 refine cc (c':=?z137) ?_ ?_
 case refine_1=>cbv<;>exact rfl
 try simp only [halfD]
 generalize natW (2^(k/2^d)-1)=Z at *
 refine G0 ?_;try with_reducible exact tt
 refine CallS.pu (h) (R0 ?_);try with_reducible exact tt

theorem o_yy:∀a,a<3→∀x,x<16→(placeY a x).shift<64:=by decide

theorem o_yz (s k:Nat) (h1:1≤s) (h2:s≤5) (hk:k≤1023) (hu:(placeY s k).shift<64):Eqn Tryz.prog o_m8 [.d (.int .i64 s),.d (.int .i64 k)] [] (.tup [.d (halfD (placeY s k).shift),.d (.int .i64 0)]) []:=by
 refine Eqn.pure o_ma (o_ol _ _) ?_
 have ha:=o_xa s k h1 h2 hk
 generalize placeY s k=P at *
 obtain ⟨px,ps,pv,pr⟩:=P
 simp only at hu
 have hh:=o_pf ps hu
 refine cc (c':=?z138) ?_ ?_
 case refine_1=>cbv<;>exact rfl
 try simp only [halfD,plD] at ha ⊢
 generalize natW (2^ps-1)=Z at *
 refine G0 ?_;try with_reducible exact tt
 refine CallS.pu (ha) (R0 ?_);try with_reducible exact tt
 refine AW.cond rfl (fun h=>?_) (fun h=>?_)
 ·simp at h
 refine G0 ?_;try with_reducible exact tt
 refine CallS.pu (hh) (R0 ?_);try with_reducible exact tt

theorem o_z0 (s k:Nat) (h1:1≤s) (h2:s≤5) (hk:k≤1023) (hu:(placeY s k).shift<64):Eqn Tryz.prog o_lw [.d (.int .i64 s),.d (.int .i64 k)] [] (.tup [.d (halfD (placeY s k).shift),.d (.int .i64 0)]) []:=by
 refine Eqn.pure o_ly (o_ol _ _) ?_
 have h:=o_yz s k h1 h2 hk hu
 refine cc (c':=?z139) ?_ ?_
 case refine_1=>cbv<;>exact rfl
 try simp only [halfD] at h ⊢
 generalize natW (2^(placeY s k).shift-1)=Z at *
 refine G0 ?_;try with_reducible exact tt
 refine CallS.pu (h) (R0 ?_);try with_reducible exact tt

theorem o_z1 {k a w x:Nat} (h:GoodS k a w) (hk:k≠1) (hx:x≤15):expOf k a x<64:=by
 unfold expOf
 split
 ·have:x/2^a≤x:=Nat.div_le_self _ _
  omega
 ·exact o_yy a (by have:=h.1;omega) x (by omega)

theorem o_z2 {k a w x : Nat} (h : GoodS k a w) (hk : k ≠ 1) (hx : x ≤ 15) : ∃ ti d g, MethOK Tryz.prog ti "tallymark/chain.chance" g ∧ kindD k a = .ifc ti d ∧ Eqn Tryz.prog g [.d d, .d (.int .i64 x)] [] (.tup [.d (halfD (expOf k a x)), .d (.int .i64 0)]) [] := by
 have hs:=o_z1 h hk hx
 obtain ⟨h,-⟩:=h
 rcases h with ⟨rfl,-⟩ | ⟨rfl,h1⟩ | ⟨rfl,h1,h2⟩
 ·exact absurd rfl hk
 ·exact ⟨_,_,_,o_yv,rfl,o_yx a x (by omega) (by omega) hs⟩
 ·exact ⟨_,_,_,o_yw,rfl,o_z0 a x h1 (by omega) (by omega) hs⟩
end
section
open Go.RowKit
theorem subs1 {x y:V} (h:Sub1 x y):Subs [x] [y]:=fun m vs hv=>by
 obtain ⟨v,r,rfl,h1,h2⟩:=V.reps_cons'.1 hv
 exact V.reps_cons.2 ⟨h m v h1,h2⟩

theorem o_z3 {k a w:Nat} (h:GoodS k a w) (cs:List Bool) (hcs:cs.length≤4000000) (x:Nat) (hx:x≤2^w-1) (f:Bool) (p:Nat) (dd:Bool) (hp:p≤cs.length) (S:Int×Nat×Bool×Nat×Bool) (hS:S=addL (stOf cs k a) (2^w-1) 1 x f p dd) :
  Eqn Tryz.prog o_81 [.d (parD k a w),.p 0 0,.d (.agg [.int .i64 x,.bool f])] [tapeO cs p dd] (.tup [.d (.agg [.int .i64 (if S.1=0 then S.2.1 else x:Nat),.bool (if S.1=0 then S.2.2.1 else f)]),.d (.int .i64 S.1)]) [tapeO cs S.2.2.2.1 S.2.2.2.2]:=by
 refine Eqn.obj1 o_83 (o_ol _ _) ⟨rfl,fun _=>rfl⟩ ?_
 have hh:=o_yc h cs hcs x hx f 1 (by omega) p dd hp S hS
 clear hS
 generalize (if S.1=0 then S.2.1 else x:Nat)=z at *
 generalize (if S.1=0 then S.2.2.1 else f)=y at *
 refine cc (c':=?z141) ?_ ?_
 case refine_1=>cbv<;>exact rfl
 try simp only [parD] at hh ⊢
 refine G0B ?_;try with_reducible exact tt
 refine CallS.o1 0 (hh) (R0B ?_);try with_reducible exact tt

theorem o_z4:Eqn Tryz.prog o_6s [] [] (.d (.bool true)) []:=by
 refine Eqn.pure o_6u (o_5e _) ?_
 refine cc (c':=?z142) ?_ ?_
 case refine_1=>cbv<;>exact rfl
 have hg:GoodS 1 1 2:=⟨by omega,by omega,by omega⟩
 have hi:=o_z3 hg [] (by simp) 0 (by omega) false 0 false (by simp) (0,1,false,0,false) (by simp [addL,stOf,stepM,wrongM,okK,powerR])
 have hc:=o_ya hg
 have ht:=o_xs 1 1 2 (by omega) hc
 simp only [parD] at hi hc ht
 refine G0B ?_;try with_reducible exact tt
 refine CallS.new1 (o_xe [] (by simp)) ⟨rfl,fun _=>rfl⟩ rfl (fun _=>rfl) (subs1 Sub1.nil) ?_
 refine G0B ?_;try with_reducible exact tt
 refine CallS.o1 1 (hi) (R0B ?_);try with_reducible exact tt
 refine CallS.pu (hc) (R0B ?_);try with_reducible exact tt
 refine CallS.pu (ht) (R0B ?_);try with_reducible exact tt
end
section
open Go.RowKit
end
section
structure TR where
 e:Int
 y:Nat
 t:Nat
 f:Bool
 p:Nat
 d:Bool
end
section
open Go.RowKit
def binM (cs:List Bool):Nat→Nat→Nat→Bool→Int×Nat×Nat×Bool
 | 0,c,p,d=>(0,c,p,d)
 | n+1,c,p,d=>if flipE cs p d=0 then binM cs n (if flipB cs p d then c+1 else c) (flipP cs p d) (flipD cs p d) else (flipE cs p d,0,flipP cs p d,flipD cs p d)
def thinM (cs:List Bool) (f:Bool):Nat→Nat→Nat→Nat→Bool→TR
 | 0,y,t,p,d=>⟨0,y,t,f,p,d⟩
 | n+1,y,t,p,d=>if (binM cs y 0 p d).1=0 then thinM cs f n (binM cs y 0 p d).2.1 (t+1) (binM cs y 0 p d).2.2.1 (binM cs y 0 p d).2.2.2 else ⟨(binM cs y 0 p d).1,y,t,f,(binM cs y 0 p d).2.2.1,(binM cs y 0 p d).2.2.2⟩
def downM (cs:List Bool) (most times:Nat):Nat→Nat→Nat→Bool→Nat→Bool→TR
 | 0,y,t,f,p,d=>⟨0,y,t,f,p,d⟩
 | k+1,y,t,f,p,d =>
  if most<y then
   if t=times then ⟨0,most,t,true,p,d⟩
   else if (thinM cs f 1 y t p d).e=0 then downM cs most times k (thinM cs f 1 y t p d).y (thinM cs f 1 y t p d).t f (thinM cs f 1 y t p d).p (thinM cs f 1 y t p d).d
   else ⟨(thinM cs f 1 y t p d).e,y,t,f,(thinM cs f 1 y t p d).p,(thinM cs f 1 y t p d).d⟩
  else ⟨0,y,t,f,p,d⟩
def oneM (cs:List Bool) (most times y t:Nat) (f:Bool) (p:Nat) (d:Bool):TR :=
 if (halfR cs t p d).1 then downM cs most times (times-t+1) (y+1) t f (halfR cs t p d).2.2.1 (halfR cs t p d).2.2.2
 else ⟨(halfR cs t p d).2.1,y,t,f,(halfR cs t p d).2.2.1,(halfR cs t p d).2.2.2⟩
def addTM (cs:List Bool) (most times:Nat):Nat→Nat→Nat→Bool→Nat→Bool→TR
 | 0,y,t,f,p,d=>⟨0,y,t,f,p,d⟩
 | n+1,y,t,f,p,d=>if (oneM cs most times y t f p d).e=0 then addTM cs most times n (oneM cs most times y t f p d).y (oneM cs most times y t f p d).t (oneM cs most times y t f p d).f (oneM cs most times y t f p d).p (oneM cs most times y t f p d).d else oneM cs most times y t f p d
def mergeTM (cs:List Bool) (most times y t:Nat) (f:Bool) (z u:Nat) (g:Bool) (p:Nat) (d:Bool):TR :=
 let A:=thinM cs f (u-t) y t p d
 if A.e=0 then
  let B:=thinM cs g (t-u) z u A.p A.d
  if B.e=0 then downM cs most times (times-A.t+1) (A.y+B.y) A.t (f || g) B.p B.d else B
 else A

def tsD (y t:Nat) (f:Bool):D:=.agg [.int .i64 y,.int .i64 t,.bool f]
end
section
open Go.RowKit
def tpD (a b:Int):D:=.agg [.int .i64 a,.int .i64 b]

def GoodT (a b:Nat):Prop:=1≤a∧a≤1023∧b≤20
def WellT (a b y t:Nat) (f:Bool):Prop:=y≤a∧t≤b∧(f=true→t=b)

theorem o_z5 {a b:Nat} (h:GoodT a b):Eqn Tryz.prog o_hb [.d (tpD a b)] [] (.d (.int .i64 0)) []:=by
 refine Eqn.pure o_hd Plain.ok ?_
 obtain ⟨h1,h2,h3⟩:=h
 have g1:¬(a:Int)<1:=by omega
 have g2:¬(1023:Int)<a:=by omega
 have g3:¬(b:Int)<0:=by omega
 have g4:¬(20:Int)<b:=by omega
 refine cc (c':=?z153) ?_ ?_
 case refine_1=>cbv<;>exact rfl
 try simp only [tpD]
 refine G1 (fs g1 (fs g2 (fs g3 g4))) ?_;try with_reducible exact tt
 refine AW.cond rfl (fun h=>?_) (fun h=>?_)
 ·simp at h
 ·refine G0 ?_;try with_reducible exact tt
end
section
open Go.RowKit
end
section
open Go.RowKit
def GoodC (k a w:Nat):Prop:=(k=1∧1≤a∧a≤4096∧bitsN (a+1)*(2^w-1)≤8192∨k=2∧a≤8∨k=3∧1≤a∧a≤5)∧1≤w∧w≤10
theorem o_z6 {k a w:Nat} (h:GoodS k a w):GoodC k a w:=by
 obtain ⟨h,h1,h2⟩:=h
 refine ⟨?_,h1,by omega⟩
 rcases h with ⟨rfl,h3,h4⟩ | ⟨rfl,h3⟩ | ⟨rfl,h3,h4⟩
 ·refine .inl ⟨rfl,h3,by omega,?_⟩
  have ha:a=1∨a=2∨a=3∨a=4:=by omega
  have hw:w=1∨w=2∨w=3∨w=4:=by omega
  rcases ha with rfl | rfl | rfl | rfl<;>rcases hw with rfl | rfl | rfl | rfl<;>decide
 ·exact .inr (.inl ⟨rfl,by omega⟩)
 ·exact .inr (.inr ⟨rfl,h3,by omega⟩)
theorem o_z7 {k a w:Nat} (h:GoodC k a w):Eqn Tryz.prog o_84 [.d (parD k a w)] [] (.d (.int .i64 0)) []:=by
 obtain ⟨h,h1,h2⟩:=h
 rcases h with ⟨rfl,h3,h4,h5⟩ | ⟨rfl,h3⟩ | ⟨rfl,h3,h4⟩
 ·exact o_xo a w h3 h4 h1 h2 h5
 ·exact o_xq a w h3 h1 h2
 ·exact o_xr a w h3 h4 h1 h2
theorem o_z8 {k a w:Nat} (h:GoodC k a w) (cs:List Bool) (hn:cs.length≤4000000):∃ti d g,StepOf cs ti d g (stOf cs k a)∧kindD k a = .ifc ti d:=by
 obtain ⟨h,-⟩:=h
 rcases h with ⟨rfl,-⟩ | ⟨rfl,-⟩ | ⟨rfl,-⟩
 ·exact ⟨_,_,_,⟨o_we,fun x p dd hp=>o_xu cs a x p dd hp hn,fun x p dd hp=>o_y7 hp⟩,rfl⟩
 ·exact ⟨_,_,_,⟨o_wf,fun x p dd hp=>o_xz cs a x p dd hp hn,fun x p dd hp=>o_y8 hp⟩,rfl⟩
 ·exact ⟨_,_,_,⟨o_wg,fun x p dd hp=>o_y1 cs a x p dd hp hn,fun x p dd hp=>o_y9 hp⟩,rfl⟩
theorem o_z9 {k a w:Nat} (h:GoodC k a w) (cs:List Bool) (hn:cs.length≤4000000):∃ti d g,AgainOf cs ti d g (agOf cs k a)∧kindD k a = .ifc ti d:=by
 obtain ⟨h,-⟩:=h
 rcases h with ⟨rfl,h1,h2,-⟩ | ⟨rfl,h1⟩ | ⟨rfl,h1,h2⟩
 ·exact ⟨_,_,_,⟨o_yk,fun x r p dd hx hr hp=>o_yn cs a x r p dd _ (o_yh cs a x r p dd h1 h2 hx hr hp hn),fun x r p dd hp=>o_y6 _ _ _ hp⟩,rfl⟩
 ·exact ⟨_,_,_,⟨o_yl,fun x r p dd hx hr hp=>o_yo cs a x r p dd _ (o_yi cs a x r p dd h1 hx hr hp hn _ rfl),fun x r p dd hp=>o_y5 _ _ _ hp⟩,rfl⟩
 ·exact ⟨_,_,_,⟨o_ym,fun x r p dd hx hr hp=>o_yp cs a x r p dd _ (o_yj cs a x r p dd h1 h2 hx hr hp hn _ rfl),fun x r p dd hp=>o_y5 _ _ _ hp⟩,rfl⟩
theorem o_za {k a w:Nat} (h:GoodC k a w) (cs:List Bool) (hcs:cs.length≤4000000) (x:Nat) (hx:x≤2^w-1) (f:Bool) (n:Nat) (hn:n≤1048576) (p:Nat) (dd:Bool) (hp:p≤cs.length) (S:Int×Nat×Bool×Nat×Bool) (hS:S=addL (stOf cs k a) (2^w-1) n x f p dd) :
  Eqn Tryz.prog o_77 [.d (parD k a w),.p 0 0,.d (.agg [.int .i64 x,.bool f]),.d (.int .i64 n)] [tapeO cs p dd] (.tup [.d (.agg [.int .i64 (if S.1=0 then S.2.1 else x:Nat),.bool (if S.1=0 then S.2.2.1 else f)]),.d (.int .i64 S.1)]) [tapeO cs S.2.2.2.1 S.2.2.2.2]:=by
 obtain ⟨ti,d,g,h1,h2⟩:=o_z8 h cs hcs
 exact o_y4 cs k a w h.2.2 ti d g _ h1 h2 (o_z7 h) x hx f n hn p dd hp S hS
theorem o_zb {k a w:Nat} (h:GoodC k a w) (cs:List Bool) (hcs:cs.length≤4000000) (x:Nat) (hx:x≤2^w-1) (f:Bool) (n:Nat) (hn:n≤2^w-1) (fo:Bool) (p:Nat) (dd:Bool) (hp:p≤cs.length) (S:Int×Nat×Bool×Nat×Bool) (hS:S=mergeL (agOf cs k a) (2^w-1) n 0 x f p dd) :
  Eqn Tryz.prog o_7a [.d (parD k a w),.p 0 0,.d (.agg [.int .i64 x,.bool f]),.d (.agg [.int .i64 n,.bool fo])] [tapeO cs p dd] (.tup [.d (.agg [.int .i64 (if S.1=0 then S.2.1 else x:Nat),.bool (if S.1=0 then S.2.2.1 || fo else f)]),.d (.int .i64 S.1)]) [tapeO cs S.2.2.2.1 S.2.2.2.2]:=by
 obtain ⟨ti,d,g,h1,h2⟩:=o_z9 h cs hcs
 exact o_yu cs k a w h.2.2 ti d g _ h1 h2 (o_z7 h) x hx f n hn fo p dd hp S hS

theorem o_zc {k a w:Nat} (h:GoodC k a w) (cs:List Bool) (hn:cs.length≤4000000):∀x p d,p≤cs.length→(stOf cs k a x p d).2.2.1≤cs.length:=by
 obtain ⟨ti,d,g,h1,h2⟩:=o_z8 h cs hn
 exact h1.le
theorem o_zd {st:StepT} {top:Nat}:∀(n x:Nat) (f:Bool) (p:Nat) (d:Bool),(f=true→x=top)→(addL st top n x f p d).2.2.1=true→(addL st top n x f p d).2.1=top
 | 0,x,f,p,d,hf,h=>hf h
 | n+1,x,f,p,d,hf,h=>by
  rw [addL] at h ⊢
  by_cases hx:x=top
  ·simp only [if_pos hx];exact hx
  ·simp only [if_neg hx] at h ⊢
   have hff:f=false:=by cases f with | false=>rfl | true=>exact absurd (hf rfl) hx
   subst hff
   by_cases he:(st x p d).2.1=0
   ·simp only [if_pos he] at h ⊢
    simp only [Bool.false_eq_true,false_and,if_false] at h ⊢
    exact o_zd n _ _ _ _ (by simp) h
   ·simp only [if_neg he] at h;cases h
def GoodR (k a b:Nat):Prop:=k=4∧GoodT a b∨k≠4∧GoodC k a b
def WellR (k a b y t:Nat) (f:Bool):Prop:=k=4∧WellT a b y t f∨k≠4∧t=0∧y≤2^b-1∧(f=true→y=2^b-1)
def addRM (cs:List Bool) (k a b n y t:Nat) (f:Bool) (p:Nat) (d:Bool):TR :=
 if k=4 then addTM cs a b n y t f p d
 else ⟨(addL (stOf cs k a) (2^b-1) n y f p d).1,(addL (stOf cs k a) (2^b-1) n y f p d).2.1,0,(addL (stOf cs k a) (2^b-1) n y f p d).2.2.1,(addL (stOf cs k a) (2^b-1) n y f p d).2.2.2.1,(addL (stOf cs k a) (2^b-1) n y f p d).2.2.2.2⟩
def mergeRM (cs:List Bool) (k a b y t:Nat) (f:Bool) (z u:Nat) (g:Bool) (p:Nat) (d:Bool):TR :=
 if k=4 then mergeTM cs a b y t f z u g p d
 else ⟨(mergeL (agOf cs k a) (2^b-1) z 0 y f p d).1,(mergeL (agOf cs k a) (2^b-1) z 0 y f p d).2.1,0,(mergeL (agOf cs k a) (2^b-1) z 0 y f p d).2.2.1 || g,(mergeL (agOf cs k a) (2^b-1) z 0 y f p d).2.2.2.1,(mergeL (agOf cs k a) (2^b-1) z 0 y f p d).2.2.2.2⟩
end
section
def b2n (b:Bool):Nat:=if b then 1 else 0
@[simp] theorem o_ze (b:Bool):b2n b≤1:=by cases b<;>decide
def numB:List Bool→Nat→Nat
 | [],n=>n
 | b::l,n=>numB l (2*n+b2n b)
theorem o_zf:∀(l:List Bool) (n:Nat),numB l n=n*2^l.length+numB l 0
 | [],n=>by simp [numB]
 | b::l,n=>by
  rw [numB,o_zf l,numB,o_zf l (2*0+b2n b),List.length_cons,Nat.pow_succ,Nat.add_mul,Nat.mul_zero,Nat.zero_add,←Nat.add_assoc,Nat.mul_comm 2 n,Nat.mul_assoc,Nat.mul_comm 2]
theorem o_zg:∀l:List Bool,numB l 0<2^l.length
 | []=>by simp [numB]
 | b::l=>by
  rw [numB,o_zf,List.length_cons,Nat.pow_succ]
  have:=o_zg l
  have:=o_ze b
  generalize 2^l.length=v at *
  cases b<;>simp [b2n]<;>omega
def bitsW (n w:Nat):List Bool:=(List.range w).map fun i=>decide (n/2^(w-1-i)%2=1)
@[simp] theorem o_zh (n w:Nat):(bitsW n w).length=w:=by simp [bitsW]
theorem o_zi (n w:Nat):bitsW n (w+1)=bitsW (n/2) w++[decide (n%2=1)]:=by
 simp only [bitsW,List.range_succ,List.map_append,List.map_cons,List.map_nil]
 congr 1
 ·apply List.map_congr_left
  intro i hi
  have:=List.mem_range.1 hi
  rw [Nat.div_div_eq_div_mul,←Nat.pow_succ',show w+1-1-i=(w-1-i).succ by omega]
 ·simp
end
section
open Go.RowKit
end
section
open Go.RowKit
end
section
open Go.RowKit
end
section
open Go.RowKit
def wellTB (a b y t:Nat) (f:Bool):Bool:=decide (y≤a)&&(decide (t≤b)&&(!f || t==b))
theorem o_zj {a b:Nat} (h:GoodT a b) (y t:Nat) (f:Bool):Eqn Tryz.prog o_eq [.d (tpD a b),.d (tsD y t f)] [] (.d (.bool (wellTB a b y t f))) []:=by
 refine Eqn.pure o_es Plain.ok ?_
 have hc:=o_z5 h
 have g3:(0:Int)≤y:=by omega
 have g4:(0:Int)≤t:=by omega
 refine cc (c':=?z159) ?_ ?_
 case refine_1=>cbv<;>exact rfl
 try simp only [tpD,tsD,wellTB] at hc ⊢
 by_cases h1:y≤a
 ·have h1':(y:Int)≤a:=by omega
  by_cases h2:t≤b
  ·have h2':(t:Int)≤b:=by omega
   cases f with
   | true =>
    by_cases h3:t=b
    ·subst h3
     refine G1 (fs g3 (fs g4 (fs h1 (fs h1' (fs h2 h2'))))) ?_;try with_reducible exact tt
     refine CallS.pu (hc) (R1 (fs g3 (fs g4 (fs h1 (fs h1' (fs h2 h2'))))) ?_);try with_reducible exact tt
    ·have h3':¬(t:Int)=b:=by omega
     refine G1 (fs g3 (fs g4 (fs h1 (fs h1' (fs h2 (fs h2' (fs h3 h3'))))))) ?_;try with_reducible exact tt
     refine CallS.pu (hc) (R1 (fs g3 (fs g4 (fs h1 (fs h1' (fs h2 (fs h2' (fs h3 h3'))))))) ?_);try with_reducible exact tt
     exact Sub1.bool (by rw [Bool.eq_iff_iff];simp;omega)
   | false =>
    refine G1 (fs g3 (fs g4 (fs h1 (fs h1' (fs h2 h2'))))) ?_;try with_reducible exact tt
    refine CallS.pu (hc) (R1 (fs g3 (fs g4 (fs h1 (fs h1' (fs h2 h2'))))) ?_);try with_reducible exact tt
  ·have h2':¬(t:Int)≤b:=by omega
   refine G1 (fs g3 (fs g4 (fs h1 (fs h1' (fs h2 h2'))))) ?_;try with_reducible exact tt
   refine CallS.pu (hc) (R1 (fs g3 (fs g4 (fs h1 (fs h1' (fs h2 h2'))))) ?_);try with_reducible exact tt
 ·have h1':¬(y:Int)≤a:=by omega
  refine G1 (fs g3 (fs g4 (fs h1 h1'))) ?_;try with_reducible exact tt
  refine CallS.pu (hc) (R1 (fs g3 (fs g4 (fs h1 h1'))) ?_);try with_reducible exact tt

theorem o_zk (k a b:Int):Eqn Tryz.prog o_am [.d (parD k a b)] [] (.d (tpD a b)) []:=by
 refine Eqn.pure o_ao Plain.ok ?_
 refine cc (c':=?z160) ?_ ?_
 case refine_1=>cbv<;>exact rfl
 try simp only [parD,tpD]
 refine G0 ?_;try with_reducible exact tt
theorem o_zl (k a b:Int):Eqn Tryz.prog o_as [.d (parD k a b)] [] (.d (parD k a b)) []:=by
 refine Eqn.pure o_au Plain.ok ?_
 refine cc (c':=?z161) ?_ ?_
 case refine_1=>cbv<;>exact rfl
 try simp only [parD]
 refine G0 ?_;try with_reducible exact tt
theorem o_zm (y t:Int) (f:Bool):Eqn Tryz.prog o_ap [.d (.agg [.int .i64 y,.int .i64 t,.bool f])] [] (.d (.agg [.int .i64 y,.int .i64 t,.bool f])) []:=by
 refine Eqn.pure o_ar Plain.ok ?_
 refine cc (c':=?z162) ?_ ?_
 case refine_1=>cbv<;>exact rfl
 refine G0 ?_;try with_reducible exact tt
theorem o_zn {k a b:Nat} (h:GoodR k a b):Eqn Tryz.prog o_e8 [.d (parD k a b)] [] (.d (.int .i64 0)) []:=by
 refine Eqn.pure o_ea Plain.ok ?_
 rcases h with ⟨rfl,h⟩ | ⟨hk,h⟩
 ·have h1:=o_zk 4 a b
  have h2:=o_z5 h
  refine cc (c':=?z166) ?_ ?_
  case refine_1=>cbv<;>exact rfl
  try simp only [parD,tpD] at h1 h2 ⊢
  refine G0 ?_;try with_reducible exact tt
  refine AW.cond rfl (fun h=>?_) (fun h=>?_)
  ·refine G0 ?_;try with_reducible exact tt
   refine CallS.pu (h1) (R0 ?_);try with_reducible exact tt
   refine CallS.pu (h2) (R0 ?_);try with_reducible exact tt
  ·simp at h
 ·have h1:=o_zl k a b
  have h2:=o_z7 h
  have hk':¬(k:Int)=4:=by omega
  refine cc (c':=?z167) ?_ ?_
  case refine_1=>cbv<;>exact rfl
  try simp only [parD] at h1 h2 ⊢
  refine G1 (fs hk hk') ?_;try with_reducible exact tt
  refine AW.cond rfl (fun h=>?_) (fun h=>?_)
  ·simp [hk'] at h
  ·refine G0 ?_;try with_reducible exact tt
   refine CallS.pu (h1) (R0 ?_);try with_reducible exact tt
   refine CallS.pu (h2) (R0 ?_);try with_reducible exact tt

def wellRB (k a b y t:Nat) (f:Bool):Bool:=if k=4 then wellTB a b y t f else (t==0)&&(decide (y≤2^b-1)&&(!f || y==2^b-1))
theorem o_zo {k a b y t:Nat} {f:Bool}:wellRB k a b y t f=true↔WellR k a b y t f:=by
 unfold wellRB WellR wellTB WellT
 by_cases hk:k=4
 ·subst hk
  simp
  intro _ _
  cases f<;>simp
 ·simp [hk]
  intro _ _
  cases f<;>simp

theorem o_zp {k a b:Nat} (h:GoodR k a b) (y t:Nat) (f:Bool):Eqn Tryz.prog o_a7 [.d (parD k a b),.d (tsD y t f)] [] (.d (.bool (wellRB k a b y t f))) []:=by
 refine Eqn.pure o_a9 Plain.ok ?_
 have hc:=o_zn h
 rcases h with ⟨rfl,h⟩ | ⟨hk,h⟩
 ·have h1:=o_zk 4 a b
  have h2:=o_zj h y t f
  have h3:=o_zm y t f
  refine cc (c':=?z168) ?_ ?_
  case refine_1=>cbv<;>exact rfl
  try simp only [parD,tpD,tsD,wellRB,if_true] at hc h1 h2 h3 ⊢
  generalize wellTB a b y t f=w at *
  refine G0 ?_;try with_reducible exact tt
  refine CallS.pu (hc) (R0 ?_);try with_reducible exact tt
  refine AW.cond rfl (fun h=>?_) (fun h=>?_)
  ·simp at h
  refine G0 ?_;try with_reducible exact tt
  refine AW.cond rfl (fun h=>?_) (fun h=>?_)
  ·refine G0 ?_;try with_reducible exact tt
   refine CallS.pu (h1) (R0 ?_);try with_reducible exact tt
   refine CallS.pu (h3) (R0 ?_);try with_reducible exact tt
   refine CallS.pu (h2) (R0 ?_);try with_reducible exact tt
  ·simp at h
 ·have h1:=o_zl k a b
  have h2:=o_xs k a b h.2.2 (o_z7 h)
  have hk':¬(k:Int)=4:=by omega
  have g:(0:Int)≤y:=by omega
  refine cc (c':=?z169) ?_ ?_
  case refine_1=>cbv<;>exact rfl
  try simp only [parD,tsD,wellRB,if_neg hk] at hc h1 h2 ⊢
  generalize 2^b-1=S at *
  by_cases ht:t=0
  ·subst ht
   by_cases hy:y≤S
   ·have hy':(y:Int)≤S:=by omega
    cases f with
    | true =>
     by_cases hs:y=S
     ·subst hs
      refine G1 (fs g (fs hk hk')) ?_;try with_reducible exact tt
      refine CallS.pu (hc) (R1 (fs g (fs hk hk')) ?_);try with_reducible exact tt
      refine AW.cond rfl (fun h=>?_) (fun h=>?_)
      ·simp at h
      refine G1 (fs g (fs hk hk')) ?_;try with_reducible exact tt
      refine AW.cond rfl (fun h=>?_) (fun h=>?_)
      ·simp [hk'] at h
      refine G1 g ?_;try with_reducible exact tt
      refine CallS.pu (h1) (R1 g ?_);try with_reducible exact tt
      refine CallS.pu (h2) (R1 g ?_);try with_reducible exact tt
     ·have hs':¬(y:Int)=S:=by omega
      refine G1 (fs g (fs hk (fs hk' (fs hy (fs hy' (fs hs hs')))))) ?_;try with_reducible exact tt
      refine CallS.pu (hc) (R1 (fs g (fs hk (fs hk' (fs hy (fs hy' (fs hs hs')))))) ?_);try with_reducible exact tt
      refine AW.cond rfl (fun h=>?_) (fun h=>?_)
      ·simp at h
      refine G1 (fs g (fs hk (fs hk' (fs hy (fs hy' (fs hs hs')))))) ?_;try with_reducible exact tt
      refine AW.cond rfl (fun h=>?_) (fun h=>?_)
      ·simp [hk'] at h
      refine G1 g ?_;try with_reducible exact tt
      refine CallS.pu (h1) (R1 g ?_);try with_reducible exact tt
      refine CallS.pu (h2) (R1 (fs g (fs hy (fs hy' (fs hs hs')))) ?_);try with_reducible exact tt
      exact Sub1.bool (by rw [Bool.eq_iff_iff];simp;omega)
    | false =>
     refine G1 (fs g (fs hk (fs hk' (fs hy hy')))) ?_;try with_reducible exact tt
     refine CallS.pu (hc) (R1 (fs g (fs hk (fs hk' (fs hy hy')))) ?_);try with_reducible exact tt
     refine AW.cond rfl (fun h=>?_) (fun h=>?_)
     ·simp at h
     refine G1 (fs g (fs hk (fs hk' (fs hy hy')))) ?_;try with_reducible exact tt
     refine AW.cond rfl (fun h=>?_) (fun h=>?_)
     ·simp [hk'] at h
     refine G1 g ?_;try with_reducible exact tt
     refine CallS.pu (h1) (R1 g ?_);try with_reducible exact tt
     refine CallS.pu (h2) (R1 (fs g (fs hy hy')) ?_);try with_reducible exact tt
   ·have hy':¬(y:Int)≤S:=by omega
    refine G1 (fs g (fs hk (fs hk' (fs hy hy')))) ?_;try with_reducible exact tt
    refine CallS.pu (hc) (R1 (fs g (fs hk (fs hk' (fs hy hy')))) ?_);try with_reducible exact tt
    refine AW.cond rfl (fun h=>?_) (fun h=>?_)
    ·simp at h
    refine G1 (fs g (fs hk (fs hk' (fs hy hy')))) ?_;try with_reducible exact tt
    refine AW.cond rfl (fun h=>?_) (fun h=>?_)
    ·simp [hk'] at h
    refine G1 g ?_;try with_reducible exact tt
    refine CallS.pu (h1) (R1 g ?_);try with_reducible exact tt
    refine CallS.pu (h2) (R1 (fs g (fs hy hy')) ?_);try with_reducible exact tt
  ·have ht':¬(t:Int)=0:=by omega
   refine G1 (fs g (fs hk (fs hk' (fs ht ht')))) ?_;try with_reducible exact tt
   refine CallS.pu (hc) (R1 (fs g (fs hk (fs hk' (fs ht ht')))) ?_);try with_reducible exact tt
   refine AW.cond rfl (fun h=>?_) (fun h=>?_)
   ·simp at h
   refine G1 (fs g (fs hk (fs hk' (fs ht ht')))) ?_;try with_reducible exact tt
   refine AW.cond rfl (fun h=>?_) (fun h=>?_)
   ·simp [hk'] at h
   refine G1 g ?_;try with_reducible exact tt
   refine CallS.pu (h1) (R1 g ?_);try with_reducible exact tt
   refine CallS.pu (h2) (R1 (fs g (fs ht ht')) ?_);try with_reducible exact tt
   exact Sub1.bool (by simp [ht])
end
section
open Go.RowKit
end
section
open Go.RowKit
def kwR (k a b:Nat):Nat:=if k=4 then bitsN a else b
def twR (k b:Nat):Nat:=if k=4 then bitsN b else 0
def encR (k a b y t:Nat) (f:Bool):List Bool:=bitsW y (kwR k a b)++bitsW t (twR k b)++[f]
theorem o_zq (k a b y t:Nat) (f:Bool):(encR k a b y t f).length=kwR k a b+twR k b+1:=by simp [encR];omega
end
section
def ofB (f:Nat→Bool):Nat→Nat
 | 0=>0
 | n+1=>ofB f n+(if f n then 2^n else 0)
def bitX (w:Nat) (xs:List Nat) (k:Nat):Bool:=(xs.getD (k/w) 0).testBit (k%w)
def nwP (n w:Nat):Nat:=(n*w+63)/64
def wordsP (w:Nat) (xs:List Nat):List Nat:=(List.range (nwP xs.length w)).map fun j=>ofB (fun b=>bitX w xs (64*j+b)) 64
@[simp] theorem o_zr (w:Nat) (xs:List Nat):(wordsP w xs).length=nwP xs.length w:=by simp [wordsP]
theorem o_zs {w:Nat} {xs:List Nat} {j:Nat} (h:j<nwP xs.length w):(wordsP w xs).getD j 0=ofB (fun b=>bitX w xs (64*j+b)) 64:=by
 unfold wordsP;rw [List.getD_eq_getElem?_getD,List.getElem?_map,List.getElem?_range h];rfl
def smallP (w:Nat) (xs:List Nat):Prop:=∀x∈xs,x<2^w
end
section
open Go.RowKit
def vecD (w:Nat) (xs:List Nat):List D:=[.sl (nwP xs.length w) ((wordsP w xs).map fun x:Nat=>D.int .u64 x),.int .i64 xs.length,.int .i64 w]
end
section
open Go.RowKit
end
section
open Go.RowKit
def encN (k a b y t:Nat) (f:Bool):Nat:=numB (encR k a b y t f) 0
def wdR (k a b:Nat):Nat:=kwR k a b+twR k b+1
theorem o_zt (k a b y t:Nat) (f:Bool):encN k a b y t f<2^wdR k a b:=by have:=o_zg (encR k a b y t f);rw [o_zq] at this;exact this
abbrev ST:=Nat×Nat×Bool
def encs (k a b:Nat) (l:List ST):List Nat:=l.map fun s=>encN k a b s.1 s.2.1 s.2.2
@[simp] theorem o_zu (k a b:Nat) (l:List ST):(encs k a b l).length=l.length:=by simp [encs]
theorem o_zv (k a b:Nat) (l:List ST):smallP (wdR k a b) (encs k a b l):=by
 intro x hx
 obtain ⟨s,-,rfl⟩:=List.mem_map.1 hx
 exact o_zt _ _ _ _ _ _
end
section
open Go.RowKit
end
section
open Go.RowKit
end
section
open Go.RowKit
theorem o_zw (n s:Nat) (ds:List D) (l:List D):V.frzs n s ds (l.map V.d)=l.map V.d:=by
 rw [o_59];simp [V.frz]
end
section
open Go.RowKit
section
variable {P:Program} {L:Nat} {Q:Exit→List V→List (Option Ob)→Prop} {T:List V} {H:List (Option Ob)} {x:C}
def AWu (P:Program) (L:Nat) (x:C) (Q:Exit→List V→List (Option Ob)→Prop):Nat→List V→List (Option Ob)→Prop
 | 0,_,_=>False
 | n+1,T,H=>AW P L x (thenQ (AWu P L x Q n) Q) T H
theorem AW.rounds (n:Nat) (h:AWu P L x Q n T H):AW P L (.loop x) Q T H:=by
 refine AW.loop (fun k T H=>AWu P L x Q k T H) n h fun k T H hk=>?_
 cases k with
 | zero=>exact hk.elim
 | succ k =>
  refine AW.mono hk fun e T' H' hq=>?_
  cases e<;>first | exact ⟨k,Nat.lt_succ_self k,hq⟩ | exact hq
theorem AWu.next {n:Nat} (h:AW P L x (thenQ (AWu P L x Q n) Q) T H):AWu P L x Q (n+1) T H:=h
end
theorem EqnD.sub {P:Program} {f:FuncId} {args args':List V} {Hs Hs':List Ob} {X:V} {dead:List Nat} (E:EqnD P f args' Hs X Hs' dead) (h:Subs args args'):EqnD P f args Hs X Hs' dead :=
 ⟨E.len,E.old,E.lowx,E.lowo,fun m vs hb hv=>E.run m vs hb (h m vs hv)⟩
end
section
open Go.RowKit
attribute [simp] o_zw o_61 o_62
@[simp] theorem o_zx (θ:Nat→Nat):∀l k:List V,V.rens θ (l++k)=V.rens θ l++V.rens θ k
 | [],k=>by simp [V.rens]
 | x::l,k=>by simp [V.rens,o_zx θ l k]
@[simp] theorem o_zy (n:Nat):∀l k:List V,V.lowl n (l++k)=(V.lowl n l&&V.lowl n k)
 | [],k=>by simp [V.lowl]
 | x::l,k=>by simp [V.lowl,o_zy n l k,Bool.and_assoc]
def arrD (k a b:Nat) (l:List ST):List D:=[.ptr (vecD (wdR k a b) (encs k a b l)) 0,.int .i64 k,.int .i64 a,.int .i64 b]
end
section
open Go.RowKit
def dsD (l:List Nat):List D:=l.map fun x:Nat=>D.int .i64 x
def nD (n:Nat):D:=.sl (sizeD n) (dsD (decs n))
theorem o_zz (l:List Nat):(dsD l).length=l.length:=by simp [dsD]
theorem o_100 (l:List Nat) (i:Nat) (h:i<l.length):(dsD l)[i]?=some (.int .i64 (l.getD i 0:Nat)):=by simp [dsD,h]
theorem o_101:decs 0=[]:=rfl
theorem o_102:nD 0 = .sl 0 []:=rfl

theorem o_103 (l:List Nat) (hs:dsmall l) (hn:l.length≤1000000):Eqn Tryz.prog o_fe [.d (.sl l.length (dsD l))] [] (.d (nD (dval l))) []:=by
 refine Eqn.pure o_fg Plain.ok ?_
 have hlen:=o_zz l
 have hget:=o_100 l
 have htk:∀i,i≤l.length→trimN l i=trimN l l.length→trimN l i=i→D.sl i ((dsD l).take i)=nD (dval l):=by
  intro i hi h1 h2
  have h3:=o_vp l l.length (Nat.le_refl _)
  have h4:=o_n4 l l.length (Nat.le_refl _)
  rw [←h1,h2,List.take_length] at h3
  rw [←h1,h2] at h4
  have h5:=o_w9 (hs.take i) h4
  rw [h3] at h5
  unfold nD sizeD dsD
  rw [h5,List.length_take,Nat.min_eq_left hi,List.map_take]
 have htk':∀i,i≤l.length→trimN l i=trimN l l.length→trimN l i=i→D.sl i ((l.map fun x:Nat=>D.int .i64 x).take i)=nD (dval l):=htk
 refine cc (c':=?z179) ?_ ?_
 case refine_1=>cbv<;>exact rfl
 try simp only [dsD]
 clear hlen hget htk
 generalize nD (dval l)=N at *
 refine A00 ?_;try with_reducible exact tt
 refine AW.loopT (α:=Nat) 0 (fun i=>[(3,.d (.int .i64 (i:Nat)))]) (fun i=>[]) (fun i=>i≤l.length∧trimN l i=trimN l l.length) (fun i=>i) l.length ?_ ?_ ⟨Nat.le_refl _,rfl⟩ ?_ ?_ ?_
 ·simp
 ·simp
 ·simp
 ·simp
 rintro i ⟨hi,ht⟩
 simp
 rcases i with _ | m
 ·have hf:=htk' 0 hi ht rfl
  refine A00 ?_;try with_reducible exact tt
  exact Sub1.of (by rw [←hf];simp)
 ·have hm:m<l.length:=by omega
  have hm2:¬l.length≤m:=by omega
  have hge:l.getD m 0=l[m]:=by simp [List.getD,hm]
  have ew:IntKind.i64.wrap (m:Int)=(m:Int):=w64 (by omega) (by omega)
  by_cases h0:l[m]=0
  ·have ht2:trimN l m=trimN l l.length:=by rw [←ht,trimN,if_pos (by rw [hge];exact h0)]
   refine A10 (fs hm (fs hm2 (fs hi (fs h0 ew)))) ?_;try with_reducible exact tt
   exact ⟨m,⟨by omega,ht2⟩,by omega,Sub1.refl _⟩
  ·have hf:=htk' (m+1) hi ht (by rw [trimN,if_neg (by rw [hge];exact h0)])
   have h0':¬((l[m]:Nat):Int)=0:=by omega
   refine A10 (fs hm (fs hm2 (fs hi (fs h0 (fs h0' ew))))) ?_;try with_reducible exact tt
   exact Sub1.of (by rw [hf])
theorem o_104 {m:Nat} (h:m≠0):decs m=(m%10000)::decs (m/10000):=by
 obtain ⟨k,rfl⟩:∃k,m=k+1:=⟨m-1,by omega⟩
 conv=>lhs;unfold decs
 rw [decsF,if_neg h]
 obtain ⟨h1,h2,h3⟩:=o_w5 k ((k+1)/10000) (by omega)
 rw [o_vr h2 (o_w7 _) h3 (o_w8 _) (by rw [h1,o_w6])]
theorem o_105 (l:List Nat) (x:Nat):(dsD (l++[x])).map V.d=(dsD l).map V.d++[.d (.int .i64 x)]:=by simp [dsD]

theorem o_106 (n:Nat) (hn:n<9223372036854775808):Eqn Tryz.prog o_bg [.d (.int .i64 n)] [] (.d (nD n)) []:=by
 refine Eqn.pure o_bi Plain.ok ?_
 have hsz:(decs n).length≤5:=o_vs (o_w8 n) (by rw [o_w6];omega)
 refine cc (c':=?z180) ?_ ?_
 case refine_1=>cbv<;>exact rfl
 refine A00 ?_;try with_reducible exact tt
 refine AW.loopG (α:=List Nat×Nat) (fun s=>setS (List.replicate 14 .junk) [(0,.d (.int .i64 (s.2:Nat))),(3,if s.1=[] then .d .nilsl else .own 0 1 s.1.length)]) (fun s=>if s.1=[] then [] else [some ⟨3,(dsD s.1).map .d⟩]) (fun s=>s.1++decs s.2=decs n∧s.2≤n) (fun s=>s.2) ([],n) ?_ ⟨rfl,Nat.le_refl _⟩ ?_ ?_ ?_
 ·intro i hi;split<;>simp
 ·simp
 ·simp
 rintro ⟨pre,m⟩ ⟨hp,hm⟩
 simp only at hp hm
 have hpl:pre.length≤5:=by rw [←hp,List.length_append] at hsz;omega
 by_cases h0:m=0
 ·subst h0
  rw [o_101,List.append_nil] at hp
  subst hp
  by_cases hpe:decs n=[]
  ·have hn0:=o_wa.1 hpe
   subst hn0
   rw [if_pos hpe,if_pos hpe]
   simp
   refine A00 ?_;try with_reducible exact tt
   exact Sub1.nil
  ·rw [if_neg hpe,if_neg hpe]
   have htk:(dsD (decs n)).take (decs n).length=dsD (decs n):=List.take_of_length_le (by rw [o_zz];omega)
   simp
   refine AW.freeze 0 1 ⟨3,(dsD (decs n)).map .d⟩ (dsD (decs n)) (by simp) rfl ?_
   simp [frzH,htk]
   refine A00 ?_;try with_reducible exact tt
   exact Sub1.refl _
 ·have hst:=o_104 h0
  rw [hst,List.append_cons] at hp
  have hmp:0<m:=by omega
  have hmp':(0:Int)<m:=by omega
  have e1:(m:Int).tmod 10000=((m%10000:Nat):Int):=by rw [Int.tmod_eq_emod_of_nonneg (by omega)];omega
  have e2:(m:Int).tdiv 10000=((m/10000:Nat):Int):=by rw [Int.tdiv_eq_ediv_of_nonneg (by omega)];omega
  have hlt:m/10000<m:=by omega
  have hle:m/10000≤n:=by omega
  have hsn:=o_105 pre (m%10000)
  clear hst
  generalize m%10000=x at *
  generalize m/10000=y at *
  by_cases hpe:pre=[]
  ·subst hpe
   simp
   refine A10 (fs hmp (fs hmp' (fs e1 e2))) ?_;try with_reducible exact tt
   refine ⟨[x],y,0,1,by simp,⟨hp,hle⟩,hlt,?_,?_⟩
   ·simp [swT,swH,sw,Ob.sw,V.ren,V.rens]
   ·simp [swT,swH,sw,Ob.sw,V.ren,V.rens,dsD]
  ·rw [if_neg hpe,if_neg hpe]
   simp
   have hlen:=o_zz pre
   refine A10 (fs hmp (fs hmp' (fs e1 (fs e2 (fs hlen hpl))))) ?_;try with_reducible exact tt
   refine ⟨pre++[x],y,0,2,by simp,⟨hp,hle⟩,hlt,?_,?_⟩
   ·simp [swT,swH,sw,Ob.sw,V.ren,V.rens]
   ·simp [swT,swH,sw,Ob.sw,V.ren,V.rens,hsn]
end
section
open Go.RowKit
theorem o_107 (f:Nat→Nat) (i:Nat):dsD ((List.range (i+1)).map f)=dsD ((List.range i).map f)++[.int .i64 (f i)]:=by
 rw [List.range_succ,List.map_append];simp [dsD]
set_option maxHeartbeats 1000000 in
theorem o_108 (a b:List Nat) (ha:dsmall a) (hb:dsmall b) (hla:a.length≤100000) (hlb:b.length≤100000):Eqn Tryz.prog o_fb [.d (.sl a.length (dsD a)),.d (.sl b.length (dsD b))] [] (.d (nD (dval a+dval b))) []:=by
 refine Eqn.pure o_fd Plain.ok ?_
 obtain ⟨F,hF⟩:∃F:Nat→List D,F=fun i=>dsD ((List.range i).map (addD a b)):=⟨_,rfl⟩
 have hFl:∀i,(F i).length=i:=by intro i;rw [hF];simp [dsD]
 have hFs:∀i,F (i+1)=F i++[.int .i64 (addD a b i)]:=by intro i;rw [hF];exact o_107 _ i
 have hF0:F 0=[]:=by rw [hF];rfl
 have htr:∀i,i≤200001→Eqn Tryz.prog o_fe [.d (.sl i (F i))] [] (.d (nD (dval ((List.range i).map (addD a b))))) []:=by
  intro i hi
  have:=o_103 ((List.range i).map (addD a b)) (o_vz (o_w0 a b) i) (by simp;omega)
  rw [hF]
  simpa using this
 have hcl:=o_vv ha hb
 have hval:=o_vw a b
 clear hF
 refine cc (c':=?z181) ?_ ?_
 case refine_1=>cbv<;>exact rfl
 try simp only [dsD]
 refine A00 ?_;try with_reducible exact tt
 refine AW.loopG (α:=Nat) (fun i=>setS (List.replicate 53 .junk) [(0,.d (.sl a.length (a.map fun x:Nat=>D.int .i64 x))),(1,.d (.sl b.length (b.map fun x:Nat=>D.int .i64 x))),(5,if i=0 then .d .nilsl else .own 0 1 i),(6,.d (.int .i64 (carryD a b i:Nat))),(7,.d (.int .i64 (i:Nat)))]) (fun i=>if i=0 then [] else [some ⟨3,(F i).map .d⟩]) (fun i=>i≤max a.length b.length+1) (fun i=>max a.length b.length+1-i) 0 ?_ (Nat.zero_le _) ?_ ?_ ?_
 ·intro i hi;split<;>simp
 ·simp [carryD]
 ·simp
 rintro i hi
 have hc1:=hcl i
 have hqb:=hcl (i+1)
 have hsn:=hFs i
 have hqd:carryD a b (i+1)=(a.getD i 0+b.getD i 0+carryD a b i)/10000:=rfl
 have hrd:addD a b i=(a.getD i 0+b.getD i 0+carryD a b i)%10000:=rfl
 have g1:=ha.getD i
 have g2:=hb.getD i
 have ew:IntKind.i64.wrap ((i:Int)+1)=(i:Int)+1:=w64 (by omega) (by omega)
 have e3:((a.getD i 0+b.getD i 0+carryD a b i:Nat):Int).tmod 10000=(addD a b i:Int):=by rw [Int.tmod_eq_emod_of_nonneg (by omega),hrd];omega
 have e4:((a.getD i 0+b.getD i 0+carryD a b i:Nat):Int).tdiv 10000=(carryD a b (i+1):Int):=by rw [Int.tdiv_eq_ediv_of_nonneg (by omega),hqd];omega
 by_cases pa:i<a.length
 ·have ga:a[i]=a.getD i 0:=by simp [List.getD,pa]
  by_cases pb:i<b.length
  ·have gb:b[i]=b.getD i 0:=by simp [List.getD,pb]
   have e1:IntKind.i64.wrap ((carryD a b i:Int)+(a.getD i 0:Nat))=(carryD a b i:Int)+(a.getD i 0:Nat):=w64 (by omega) (by omega)
   have e2:IntKind.i64.wrap ((carryD a b i:Int)+(a.getD i 0:Nat)+(b.getD i 0:Nat))=((a.getD i 0+b.getD i 0+carryD a b i:Nat):Int):=by rw [w64 (by omega) (by omega)];omega
   clear hqd hrd
   generalize a.getD i 0+b.getD i 0+carryD a b i=s at *
   generalize a.getD i 0=ai at *
   generalize b.getD i 0=bi at *
   have hii:(i:Int)<a.length:=by omega
   have hij:(i:Int)<b.length:=by omega
   have hl:=hFl i
   clear hval htr
   generalize carryD a b i=c at *
   generalize hq:carryD a b (i+1)=q at *
   have e5:IntKind.i64.wrap (q:Int)=(q:Int):=w64 (by omega) (by omega)
   generalize addD a b i=r at *
   by_cases hi0:i=0
   ·rw [if_pos hi0,if_pos hi0]
    rw [hi0] at hsn
    rw [hF0] at hsn
    have hq1:carryD a b 1=q:=by rw [←hq,hi0]
    simp
    refine A10 (fs pa (fs pb (fs hii (fs hij (fs ga (fs gb (fs e1 (fs e2 (fs e3 (fs e4 (fs e5 (fs ew hl)))))))))))) ?_;try with_reducible exact tt
    refine ⟨i+1,0,1,by simp,by omega,by omega,?_,?_⟩
    ·simp [swT,swH,sw,Ob.sw,V.ren,V.rens,hi0,hq1]
    ·simp [swT,swH,sw,Ob.sw,V.ren,V.rens,hi0,hsn]
   ·rw [if_neg hi0,if_neg hi0]
    simp
    refine A10 (fs pa (fs pb (fs hii (fs hij (fs ga (fs gb (fs e1 (fs e2 (fs e3 (fs e4 (fs e5 (fs ew hl)))))))))))) ?_;try with_reducible exact tt
    refine ⟨i+1,0,2,by simp,by omega,by omega,?_,?_⟩
    ·simp [swT,swH,sw,Ob.sw,V.ren,V.rens,hq]
    ·simp [swT,swH,sw,Ob.sw,V.ren,V.rens,hsn]
  ·have gb:b.getD i 0=0:=by simp [List.getD,List.getElem?_eq_none (show b.length≤i by omega)]
   have e1:IntKind.i64.wrap ((carryD a b i:Int)+(a.getD i 0:Nat))=((a.getD i 0+b.getD i 0+carryD a b i:Nat):Int):=by rw [w64 (by omega) (by omega)];omega
   clear hqd hrd
   generalize a.getD i 0+b.getD i 0+carryD a b i=s at *
   generalize a.getD i 0=ai at *
   generalize b.getD i 0=bi at *
   have hii:(i:Int)<a.length:=by omega
   have hij:¬(i:Int)<b.length:=by omega
   have hl:=hFl i
   clear hval htr
   generalize carryD a b i=c at *
   generalize hq:carryD a b (i+1)=q at *
   have e5:IntKind.i64.wrap (q:Int)=(q:Int):=w64 (by omega) (by omega)
   generalize addD a b i=r at *
   by_cases hi0:i=0
   ·rw [if_pos hi0,if_pos hi0]
    rw [hi0] at hsn
    rw [hF0] at hsn
    have hq1:carryD a b 1=q:=by rw [←hq,hi0]
    simp
    refine A10 (fs pa (fs pb (fs hii (fs hij (fs ga (fs e1 (fs e3 (fs e4 (fs e5 (fs ew hl)))))))))) ?_;try with_reducible exact tt
    refine ⟨i+1,0,1,by simp,by omega,by omega,?_,?_⟩
    ·simp [swT,swH,sw,Ob.sw,V.ren,V.rens,hi0,hq1]
    ·simp [swT,swH,sw,Ob.sw,V.ren,V.rens,hi0,hsn]
   ·rw [if_neg hi0,if_neg hi0]
    simp
    refine A10 (fs pa (fs pb (fs hii (fs hij (fs ga (fs e1 (fs e3 (fs e4 (fs e5 (fs ew hl)))))))))) ?_;try with_reducible exact tt
    refine ⟨i+1,0,2,by simp,by omega,by omega,?_,?_⟩
    ·simp [swT,swH,sw,Ob.sw,V.ren,V.rens,hq]
    ·simp [swT,swH,sw,Ob.sw,V.ren,V.rens,hsn]
 ·have ga:a.getD i 0=0:=by simp [List.getD,List.getElem?_eq_none (show a.length≤i by omega)]
  have hii:¬(i:Int)<a.length:=by omega
  by_cases pb:i<b.length
  ·have gb:b[i]=b.getD i 0:=by simp [List.getD,pb]
   have e1:IntKind.i64.wrap ((carryD a b i:Int)+(b.getD i 0:Nat))=((a.getD i 0+b.getD i 0+carryD a b i:Nat):Int):=by rw [w64 (by omega) (by omega)];omega
   clear hqd hrd
   generalize a.getD i 0+b.getD i 0+carryD a b i=s at *
   generalize a.getD i 0=ai at *
   generalize b.getD i 0=bi at *
   have hij:(i:Int)<b.length:=by omega
   have hl:=hFl i
   clear hval htr
   generalize carryD a b i=c at *
   generalize hq:carryD a b (i+1)=q at *
   have e5:IntKind.i64.wrap (q:Int)=(q:Int):=w64 (by omega) (by omega)
   generalize addD a b i=r at *
   by_cases hi0:i=0
   ·rw [if_pos hi0,if_pos hi0]
    rw [hi0] at hsn
    rw [hF0] at hsn
    have hq1:carryD a b 1=q:=by rw [←hq,hi0]
    simp
    refine A10 (fs pa (fs pb (fs hii (fs hij (fs gb (fs e1 (fs e3 (fs e4 (fs e5 (fs ew hl)))))))))) ?_;try with_reducible exact tt
    refine ⟨i+1,0,1,by simp,by omega,by omega,?_,?_⟩
    ·simp [swT,swH,sw,Ob.sw,V.ren,V.rens,hi0,hq1]
    ·simp [swT,swH,sw,Ob.sw,V.ren,V.rens,hi0,hsn]
   ·rw [if_neg hi0,if_neg hi0]
    simp
    refine A10 (fs pa (fs pb (fs hii (fs hij (fs gb (fs e1 (fs e3 (fs e4 (fs e5 (fs ew hl)))))))))) ?_;try with_reducible exact tt
    refine ⟨i+1,0,2,by simp,by omega,by omega,?_,?_⟩
    ·simp [swT,swH,sw,Ob.sw,V.ren,V.rens,hq]
    ·simp [swT,swH,sw,Ob.sw,V.ren,V.rens,hsn]
  ·have gb:b.getD i 0=0:=by simp [List.getD,List.getElem?_eq_none (show b.length≤i by omega)]
   have hij:¬(i:Int)<b.length:=by omega
   simp only [ga,gb,Nat.zero_add] at e3 e4 hqd
   by_cases hc0:0<carryD a b i
   ·have hc0':(0:Int)<carryD a b i:=by omega
    have hlt:i<max a.length b.length+1:=by
     rcases Nat.lt_or_ge i (max a.length b.length+1) with h | h
     ·exact h
     ·exfalso
      obtain ⟨j,rfl⟩:∃j,i=j+1:=⟨i-1,by omega⟩
      have h1:=hcl j
      have h2:carryD a b (j+1)=(a.getD j 0+b.getD j 0+carryD a b j)/10000:=rfl
      have h3:a.getD j 0=0:=by simp [List.getD,List.getElem?_eq_none (show a.length≤j by omega)]
      have h4:b.getD j 0=0:=by simp [List.getD,List.getElem?_eq_none (show b.length≤j by omega)]
      omega
    clear hqd hrd
    have hl:=hFl i
    clear hval htr
    generalize carryD a b i=c at *
    generalize hq:carryD a b (i+1)=q at *
    have e5:IntKind.i64.wrap (q:Int)=(q:Int):=w64 (by omega) (by omega)
    generalize addD a b i=r at *
    by_cases hi0:i=0
    ·rw [if_pos hi0,if_pos hi0]
     rw [hi0] at hsn
     rw [hF0] at hsn
     have hq1:carryD a b 1=q:=by rw [←hq,hi0]
     simp
     refine A10 (fs pa (fs pb (fs hii (fs hij (fs hc0 (fs hc0' (fs e3 (fs e4 (fs e5 (fs ew hl)))))))))) ?_;try with_reducible exact tt
     refine ⟨i+1,0,1,by simp,by omega,by omega,?_,?_⟩
     ·simp [swT,swH,sw,Ob.sw,V.ren,V.rens,hi0,hq1]
     ·simp [swT,swH,sw,Ob.sw,V.ren,V.rens,hi0,hsn]
    ·rw [if_neg hi0,if_neg hi0]
     simp
     refine A10 (fs pa (fs pb (fs hii (fs hij (fs hc0 (fs hc0' (fs e3 (fs e4 (fs e5 (fs ew hl)))))))))) ?_;try with_reducible exact tt
     refine ⟨i+1,0,2,by simp,by omega,by omega,?_,?_⟩
     ·simp [swT,swH,sw,Ob.sw,V.ren,V.rens,hq]
     ·simp [swT,swH,sw,Ob.sw,V.ren,V.rens,hsn]
   ·have hc0':¬(0:Int)<carryD a b i:=by omega
    have hcz:carryD a b i=0:=by omega
    have hv:=hval i
    rw [hcz,Nat.mul_zero,Nat.add_zero,List.take_of_length_le (by omega),List.take_of_length_le (by omega)] at hv
    have ht:=htr i (by omega)
    rw [hv] at ht
    clear e3 e4 hqd hrd hval htr
    generalize carryD a b i=c at *
    by_cases hi0:i=0
    ·rw [if_pos hi0,if_pos hi0]
     subst hi0
     rw [hF0] at ht
     replace ht:Eqn Tryz.prog o_fe [.d .nilsl] [] (.d (nD (dval a+dval b))) []:=ht.sub (Subs.cons Sub1.nil (Subs.refl _))
     simp
     refine A11 (fs pa (fs pb (fs hii (fs hij (fs hc0 hc0'))))) ht ?_;try with_reducible exact tt
    ·rw [if_neg hi0,if_neg hi0]
     have htk:(F i).take i=F i:=List.take_of_length_le (by rw [hFl];exact Nat.le_refl _)
     simp
     refine AW.freeze 0 1 ⟨3,(F i).map .d⟩ (F i) (by simp) rfl ?_
     simp [frzH,htk]
     refine A11 (fs pa (fs pb (fs hii (fs hij (fs hc0 hc0'))))) ht ?_;try with_reducible exact tt
theorem o_109 (x y:Nat) (hx:sizeD x≤100000) (hy:sizeD y≤100000):Eqn Tryz.prog o_fb [.d (nD x),.d (nD y)] [] (.d (nD (x+y))) []:=by
 have:=o_108 (decs x) (decs y) (o_w7 x) (o_w7 y) hx hy
 rwa [o_w6,o_w6] at this
end
section
open Go.RowKit
theorem o_10a (x y:Nat) (hx:sizeD x≤1000000) (hy:sizeD y≤1000000):Eqn Tryz.prog o_dj [.d (nD x),.d (nD y)] [] (.d (.int .i64 (cmpZ x y))) []:=by
 refine Eqn.pure o_dl Plain.ok ?_
 unfold sizeD at hx hy
 have ha:=o_w7 x
 have hb:=o_w7 y
 have ta:=o_w8 x
 have tb:=o_w8 y
 have va:=o_w6 x
 have vb:=o_w6 y
 refine cc (c':=?z182) ?_ ?_
 case refine_1=>cbv<;>exact rfl
 try simp only [nD,sizeD,dsD]
 generalize decs x=a at *
 generalize decs y=b at *
 by_cases hl:a.length=b.length
 ·have hlp:(a.length:Int)=b.length:=by omega
  have hc:=o_w4 ha hb a.length
  rw [List.take_length,hl,List.take_length,va,vb] at hc
  replace hc:cmpN a b b.length=cmpZ x y:=hc
  rw [←hc]
  have ew0:IntKind.i64.wrap ((b.length:Int)-1)=(b.length:Int)-1:=w64 (by omega) (by omega)
  refine A10 (fs hl (fs hlp ew0)) ?_;try with_reducible exact tt
  refine AW.loopT (α:=Nat) 0 (fun j=>[(5,.d (.int .i64 ((j:Int)-1)))]) (fun j=>[]) (fun j=>j≤b.length∧cmpN a b j=cmpN a b b.length) (fun j=>j) b.length ?_ ?_ ⟨Nat.le_refl _,rfl⟩ ?_ ?_ ?_
  ·simp
  ·simp
  ·simp
  ·simp
  rintro j ⟨hj,hje⟩
  rcases j with _ | m
  ·simp
   have h0:cmpN a b b.length=0:=by rw [←hje];rfl
   rw [h0]
   refine A00 ?_;try with_reducible exact tt
  ·rw [cmpN] at hje
   have hm:m<a.length:=by omega
   have hm2:m<b.length:=by omega
   have g1:a.getD m 0=a[m]:=by simp [List.getD,hm]
   have g2:b.getD m 0=b[m]:=by simp [List.getD,hm2]
   have ew:IntKind.i64.wrap ((m:Int)-1)=(m:Int)-1:=w64 (by omega) (by omega)
   have hmi:(m:Int)<b.length:=by omega
   rw [g1,g2] at hje
   by_cases h1:a[m]<b[m]
   ·rw [if_pos h1] at hje
    rw [←hje]
    have h1':((a[m]:Nat):Int)<(b[m]:Nat):=by omega
    simp
    refine A10 (fs hm (fs hm2 (fs hmi (fs hl (fs hlp (fs h1 h1')))))) ?_;try with_reducible exact tt
   ·rw [if_neg h1] at hje
    have h1':¬((a[m]:Nat):Int)<(b[m]:Nat):=by omega
    by_cases h2:b[m]<a[m]
    ·rw [if_pos h2] at hje
     rw [←hje]
     have h2':((b[m]:Nat):Int)<(a[m]:Nat):=by omega
     simp
     refine A10 (fs hm (fs hm2 (fs hmi (fs hl (fs hlp (fs h1 (fs h1' (fs h2 h2')))))))) ?_;try with_reducible exact tt
    ·rw [if_neg h2] at hje
     have h2':¬((b[m]:Nat):Int)<(a[m]:Nat):=by omega
     simp
     refine A10 (fs hm (fs hm2 (fs hmi (fs hl (fs hlp (fs h1 (fs h1' (fs h2 (fs h2' ew))))))))) ?_;try with_reducible exact tt
     exact ⟨m,⟨by omega,hje⟩,by omega,Sub1.refl _⟩
 ·have hlp:¬(a.length:Int)=b.length:=by omega
  by_cases h1:a.length<b.length
  ·have h1':(a.length:Int)<b.length:=by omega
   have h3:=o_w2 ha tb h1
   rw [va,vb] at h3
   rw [show cmpZ x y = -1 by unfold cmpZ;rw [if_pos h3]]
   refine A10 (fs hl (fs hlp (fs h1 h1'))) ?_;try with_reducible exact tt
  ·have h1':¬(a.length:Int)<b.length:=by omega
   have h3:=o_w2 hb ta (show b.length<a.length by omega)
   rw [va,vb] at h3
   rw [show cmpZ x y=1 by unfold cmpZ;rw [if_neg (by omega),if_pos h3]]
   refine A10 (fs hl (fs hlp (fs h1 h1'))) ?_;try with_reducible exact tt

set_option maxHeartbeats 1000000 in
theorem o_10b (x y:Nat) (hxy:y≤x) (hx:sizeD x≤100000) (hy:sizeD y≤100000):Eqn Tryz.prog o_gn [.d (nD x),.d (nD y)] [] (.d (nD (x-y))) []:=by
 refine Eqn.pure o_gp Plain.ok ?_
 unfold sizeD at hx hy
 have ha:=o_w7 x
 have hb:=o_w7 y
 have tb:=o_w8 y
 have ta:=o_w8 x
 have va:=o_w6 x
 have vb:=o_w6 y
 have hll:(decs y).length≤(decs x).length:=by
  rcases Nat.lt_or_ge (decs x).length (decs y).length with h | h
  ·have:=o_w2 ha tb h
   omega
  ·exact h
 refine cc (c':=?z183) ?_ ?_
 case refine_1=>cbv<;>exact rfl
 try simp only [nD,sizeD,dsD]
 generalize decs x=a at *
 generalize decs y=b at *
 have hval:=o_vy ha hb a.length
 have hbl:=o_vx a b
 rw [List.take_length,List.take_of_length_le hll,va,vb] at hval
 have hsz:=o_w3 (l:=(List.range a.length).map (subD a b)) (o_vz (o_w1 a b) a.length) a.length
 rw [List.take_of_length_le (by simp)] at hsz
 have hxa:dval a<10000^a.length:=by have:=o_w3 ha a.length;rwa [List.take_length] at this
 have hfin:dval ((List.range a.length).map (subD a b))=x-y:=by
  have h1:=hbl a.length
  rcases Nat.lt_or_ge (borrowD a b a.length) 1 with h | h
  ·have:borrowD a b a.length=0:=by omega
   rw [this] at hval
   omega
  ·have:borrowD a b a.length=1:=by omega
   rw [this] at hval
   omega
 obtain ⟨F,hF⟩:∃F:Nat→List D,F=fun i=>dsD ((List.range i).map (subD a b)):=⟨_,rfl⟩
 have hFl:∀i,(F i).length=i:=by intro i;rw [hF];simp [dsD]
 have hFs:∀i,F (i+1)=F i++[.int .i64 (subD a b i)]:=by intro i;rw [hF];exact o_107 _ i
 have hF0:F 0=[]:=by rw [hF];rfl
 have htr:Eqn Tryz.prog o_fe [.d (.sl a.length (F a.length))] [] (.d (nD (x-y))) []:=by
  have:=o_103 ((List.range a.length).map (subD a b)) (o_vz (o_w1 a b) _) (by simp;omega)
  rw [hF,←hfin]
  simpa using this
 clear hF hfin hxa hsz
 simp only [nD,sizeD,dsD] at htr
 generalize D.sl (decs (x-y)).length (List.map (fun x:Nat=>D.int .i64 x) (decs (x-y)))=N at *
 refine A00 ?_;try with_reducible exact tt
 refine AW.loopG (α:=Nat) (fun i=>setS (List.replicate 41 .junk) [(0,.d (.sl a.length (a.map fun x:Nat=>D.int .i64 x))),(1,.d (.sl b.length (b.map fun x:Nat=>D.int .i64 x))),(5,if i=0 then .d .nilsl else .own 0 1 i),(6,.d (.int .i64 (borrowD a b i:Nat))),(7,.d (.int .i64 (i:Nat)))]) (fun i=>if i=0 then [] else [some ⟨3,(F i).map .d⟩]) (fun i=>i≤a.length) (fun i=>a.length-i) 0 ?_ (Nat.zero_le _) ?_ ?_ ?_
 ·intro i hi;split<;>simp
 ·simp [borrowD]
 ·simp
 rintro i hi
 by_cases pa:i<a.length
 ·have hii:(i:Int)<a.length:=by omega
  have hc1:=hbl i
  have hqb:=hbl (i+1)
  have hsn:=hFs i
  have ga:a[i]=a.getD i 0:=by simp [List.getD,pa]
  have g1:=ha.getD i
  have g2:=hb.getD i
  have hqd:borrowD a b (i+1)=if a.getD i 0<b.getD i 0+borrowD a b i then 1 else 0:=rfl
  have hrd:subD a b i=(a.getD i 0+10000-b.getD i 0-borrowD a b i)%10000:=rfl
  have ew:IntKind.i64.wrap ((i:Int)+1)=(i:Int)+1:=w64 (by omega) (by omega)
  have e1:IntKind.i64.wrap ((a.getD i 0:Nat)-(borrowD a b i:Int))=(a.getD i 0:Nat)-(borrowD a b i:Int):=w64 (by omega) (by omega)
  by_cases pb:i<b.length
  ·have hij:(i:Int)<b.length:=by omega
   have gb:b[i]=b.getD i 0:=by simp [List.getD,pb]
   by_cases hz:a.getD i 0<b.getD i 0+borrowD a b i
   ·have q0:borrowD a b (i+1)=1:=by rw [hqd];rw [if_pos hz]
    have e2:IntKind.i64.wrap ((a.getD i 0:Nat)-(borrowD a b i:Int)-(b.getD i 0:Nat))=(subD a b i:Int)-10000:=by rw [w64 (by omega) (by omega),hrd];omega
    have e3:IntKind.i64.wrap ((subD a b i:Int)-10000+10000)=(subD a b i:Int):=by rw [w64 (by omega) (by omega)];omega
    have e3':IntKind.i64.wrap (subD a b i:Int)=(subD a b i:Int):=w64 (by omega) (by omega)
    have e4:(subD a b i:Int)-10000<0:=by omega
    have e5:(subD a b i:Int)<10000:=by omega
    clear hqd hrd
    generalize a.getD i 0=ai at *
    generalize b.getD i 0=bi at *
    have hl:=hFl i
    clear hval htr
    generalize hq:borrowD a b (i+1)=q at *
    generalize borrowD a b i=c at *
    generalize subD a b i=r at *
    by_cases hi0:i=0
    ·rw [if_pos hi0,if_pos hi0]
     rw [hi0] at hsn
     rw [hF0] at hsn
     have hq1:borrowD a b 1=q:=by rw [←hq,hi0]
     simp
     refine A10 (fs pa (fs pb (fs hii (fs hij (fs ga (fs gb (fs e1 (fs e2 (fs e3 (fs e3' (fs e4 (fs e5 (fs ew hl))))))))))))) ?_;try with_reducible exact tt
     refine ⟨i+1,0,1,by simp,by omega,by omega,?_,?_⟩
     ·simp [swT,swH,sw,Ob.sw,V.ren,V.rens,hi0,hq1,q0]
     ·simp [swT,swH,sw,Ob.sw,V.ren,V.rens,hi0,hsn]
    ·rw [if_neg hi0,if_neg hi0]
     simp
     refine A10 (fs pa (fs pb (fs hii (fs hij (fs ga (fs gb (fs e1 (fs e2 (fs e3 (fs e3' (fs e4 (fs e5 (fs ew hl))))))))))))) ?_;try with_reducible exact tt
     refine ⟨i+1,0,2,by simp,by omega,by omega,?_,?_⟩
     ·simp [swT,swH,sw,Ob.sw,V.ren,V.rens,hq,q0]
     ·simp [swT,swH,sw,Ob.sw,V.ren,V.rens,hsn]
   ·have q0:borrowD a b (i+1)=0:=by rw [hqd];rw [if_neg hz]
    have e2:IntKind.i64.wrap ((a.getD i 0:Nat)-(borrowD a b i:Int)-(b.getD i 0:Nat))=(subD a b i:Int):=by rw [w64 (by omega) (by omega),hrd];omega
    have e4:¬(subD a b i:Int)<0:=by omega
    clear hqd hrd
    generalize a.getD i 0=ai at *
    generalize b.getD i 0=bi at *
    have hl:=hFl i
    clear hval htr
    generalize hq:borrowD a b (i+1)=q at *
    generalize borrowD a b i=c at *
    generalize subD a b i=r at *
    by_cases hi0:i=0
    ·rw [if_pos hi0,if_pos hi0]
     rw [hi0] at hsn
     rw [hF0] at hsn
     have hq1:borrowD a b 1=q:=by rw [←hq,hi0]
     simp
     refine A10 (fs pa (fs pb (fs hii (fs hij (fs ga (fs gb (fs e1 (fs e2 (fs e4 (fs ew hl)))))))))) ?_;try with_reducible exact tt
     refine ⟨i+1,0,1,by simp,by omega,by omega,?_,?_⟩
     ·simp [swT,swH,sw,Ob.sw,V.ren,V.rens,hi0,hq1,q0]
     ·simp [swT,swH,sw,Ob.sw,V.ren,V.rens,hi0,hsn]
    ·rw [if_neg hi0,if_neg hi0]
     simp
     refine A10 (fs pa (fs pb (fs hii (fs hij (fs ga (fs gb (fs e1 (fs e2 (fs e4 (fs ew hl)))))))))) ?_;try with_reducible exact tt
     refine ⟨i+1,0,2,by simp,by omega,by omega,?_,?_⟩
     ·simp [swT,swH,sw,Ob.sw,V.ren,V.rens,hq,q0]
     ·simp [swT,swH,sw,Ob.sw,V.ren,V.rens,hsn]
  ·have hij:¬(i:Int)<b.length:=by omega
   have gb:b.getD i 0=0:=by simp [List.getD,List.getElem?_eq_none (show b.length≤i by omega)]
   by_cases hz:a.getD i 0<b.getD i 0+borrowD a b i
   ·have q0:borrowD a b (i+1)=1:=by rw [hqd];rw [if_pos hz]
    have e2:IntKind.i64.wrap ((a.getD i 0:Nat)-(borrowD a b i:Int))=(subD a b i:Int)-10000:=by rw [w64 (by omega) (by omega),hrd];omega
    have e3:IntKind.i64.wrap ((subD a b i:Int)-10000+10000)=(subD a b i:Int):=by rw [w64 (by omega) (by omega)];omega
    have e3':IntKind.i64.wrap (subD a b i:Int)=(subD a b i:Int):=w64 (by omega) (by omega)
    have e4:(subD a b i:Int)-10000<0:=by omega
    have e5:(subD a b i:Int)<10000:=by omega
    clear hqd hrd e1
    generalize a.getD i 0=ai at *
    generalize b.getD i 0=bi at *
    have hl:=hFl i
    clear hval htr
    generalize hq:borrowD a b (i+1)=q at *
    generalize borrowD a b i=c at *
    generalize subD a b i=r at *
    by_cases hi0:i=0
    ·rw [if_pos hi0,if_pos hi0]
     rw [hi0] at hsn
     rw [hF0] at hsn
     have hq1:borrowD a b 1=q:=by rw [←hq,hi0]
     simp
     refine A10 (fs pa (fs pb (fs hii (fs hij (fs ga (fs e2 (fs e3 (fs e3' (fs e4 (fs e5 (fs ew hl))))))))))) ?_;try with_reducible exact tt
     refine ⟨i+1,0,1,by simp,by omega,by omega,?_,?_⟩
     ·simp [swT,swH,sw,Ob.sw,V.ren,V.rens,hi0,hq1,q0]
     ·simp [swT,swH,sw,Ob.sw,V.ren,V.rens,hi0,hsn]
    ·rw [if_neg hi0,if_neg hi0]
     simp
     refine A10 (fs pa (fs pb (fs hii (fs hij (fs ga (fs e2 (fs e3 (fs e3' (fs e4 (fs e5 (fs ew hl))))))))))) ?_;try with_reducible exact tt
     refine ⟨i+1,0,2,by simp,by omega,by omega,?_,?_⟩
     ·simp [swT,swH,sw,Ob.sw,V.ren,V.rens,hq,q0]
     ·simp [swT,swH,sw,Ob.sw,V.ren,V.rens,hsn]
   ·have q0:borrowD a b (i+1)=0:=by rw [hqd];rw [if_neg hz]
    have e2:IntKind.i64.wrap ((a.getD i 0:Nat)-(borrowD a b i:Int))=(subD a b i:Int):=by rw [w64 (by omega) (by omega),hrd];omega
    have e4:¬(subD a b i:Int)<0:=by omega
    clear hqd hrd e1
    generalize a.getD i 0=ai at *
    generalize b.getD i 0=bi at *
    have hl:=hFl i
    clear hval htr
    generalize hq:borrowD a b (i+1)=q at *
    generalize borrowD a b i=c at *
    generalize subD a b i=r at *
    by_cases hi0:i=0
    ·rw [if_pos hi0,if_pos hi0]
     rw [hi0] at hsn
     rw [hF0] at hsn
     have hq1:borrowD a b 1=q:=by rw [←hq,hi0]
     simp
     refine A10 (fs pa (fs pb (fs hii (fs hij (fs ga (fs e2 (fs e4 (fs ew hl)))))))) ?_;try with_reducible exact tt
     refine ⟨i+1,0,1,by simp,by omega,by omega,?_,?_⟩
     ·simp [swT,swH,sw,Ob.sw,V.ren,V.rens,hi0,hq1,q0]
     ·simp [swT,swH,sw,Ob.sw,V.ren,V.rens,hi0,hsn]
    ·rw [if_neg hi0,if_neg hi0]
     simp
     refine A10 (fs pa (fs pb (fs hii (fs hij (fs ga (fs e2 (fs e4 (fs ew hl)))))))) ?_;try with_reducible exact tt
     refine ⟨i+1,0,2,by simp,by omega,by omega,?_,?_⟩
     ·simp [swT,swH,sw,Ob.sw,V.ren,V.rens,hq,q0]
     ·simp [swT,swH,sw,Ob.sw,V.ren,V.rens,hsn]
 ·have hi2:i=a.length:=by omega
  have hii:¬(i:Int)<a.length:=by omega
  rw [←hi2] at htr
  clear hval
  generalize borrowD a b i=c at *
  by_cases hi0:i=0
  ·rw [if_pos hi0,if_pos hi0]
   rw [hi0,hF0] at htr
   replace htr:Eqn Tryz.prog o_fe [.d .nilsl] [] (.d N) []:=htr.sub (Subs.cons Sub1.nil (Subs.refl _))
   simp
   refine A11 (fs pa hii) htr ?_;try with_reducible exact tt
  ·rw [if_neg hi0,if_neg hi0]
   have htk:(F i).take i=F i:=List.take_of_length_le (by rw [hFl];exact Nat.le_refl _)
   simp
   refine AW.freeze 0 1 ⟨3,(F i).map .d⟩ (F i) (by simp) rfl ?_
   simp [frzH,htk]
   refine A11 (fs pa hii) htr ?_;try with_reducible exact tt
end
section
open Go.RowKit
theorem o_10c:∀(ws:List Nat) (j v:Nat),j<ws.length→dval (ws.set j v)+10000^j*ws.getD j 0=dval ws+10000^j*v
 | [],j,v,h=>by simp at h
 | x::ws,0,v,h=>by simp [dval];omega
 | x::ws,j+1,v,h=>by
  have ih:=o_10c ws j v (by simpa using h)
  simp only [List.set_cons_succ,dval,List.getD_cons_succ]
  rw [Nat.pow_succ]
  generalize 10000^j=P at *
  generalize ws.getD j 0=g at *
  have e1:P*10000*g=10000*(P*g):=by rw [Nat.mul_comm P,Nat.mul_assoc]
  have e2:P*10000*v=10000*(P*v):=by rw [Nat.mul_comm P,Nat.mul_assoc]
  rw [e1,e2]
  omega
theorem o_10d {l:List Nat} {i j v:Nat} (h:i≠j):(l.set i v).getD j 0=l.getD j 0:=by
 rw [List.getD_eq_getElem?_getD,List.getElem?_set_ne h,←List.getD_eq_getElem?_getD]
theorem dsmall.set {l:List Nat} (h:dsmall l) (j v:Nat) (hv:v<10000):dsmall (l.set j v):=fun x hx=>by
 rcases List.mem_or_eq_of_mem_set hx with h1 | h1
 ·exact h x h1
 ·rw [h1];exact hv
theorem o_10e {V A c o x D1 D2 Bk bk P K:Nat} (hv:D1+P*K*c=V+P*(A*Bk)) (hs:D2+P*K*o=D1+P*K*(x%10000)) (hx:x=o+c+A*bk):D2+P*(K*10000)*(x/10000)=V+P*(A*(Bk+K*bk)):=by
 have h1:10000*(x/10000)+x%10000=o+c+A*bk:=by rw [Nat.div_add_mod];exact hx
 have h2:P*K*(10000*(x/10000)+x%10000)=P*K*(o+c+A*bk):=by rw [h1]
 have h3:P*(K*10000)*(x/10000)=P*K*(10000*(x/10000)):=by
  rw [←Nat.mul_assoc P K 10000,Nat.mul_assoc (P*K)]
 have h4:P*(A*(Bk+K*bk))=P*(A*Bk)+P*K*(A*bk):=by
  rw [Nat.mul_add,Nat.mul_add,show A*(K*bk)=K*(A*bk) by rw [←Nat.mul_assoc,Nat.mul_comm A K,Nat.mul_assoc],←Nat.mul_assoc P K]
 rw [Nat.mul_add] at h2
 rw [Nat.mul_add,Nat.mul_add] at h2
 rw [h3,h4]
 generalize P*K*(10000*(x/10000))=t1 at *
 generalize P*K*(x%10000)=t2 at *
 generalize P*K*o=t3 at *
 generalize P*K*c=t4 at *
 generalize P*K*(A*bk)=t5 at *
 generalize P*(A*Bk)=t6 at *
 omega

@[simp] theorem lowI (n:Nat):∀l:List Nat,V.lowl n (l.map fun x:Nat=>V.d (D.int .i64 x))=true
 | []=>rfl
 | x::l=>by
  have:=lowI n l
  simp only [List.map_cons,V.lowl,this];rfl
@[simp] theorem lowR (n m:Nat) (x:D):V.lowl n (List.replicate m (V.d x))=true:=by
 induction m with
 | zero=>rfl
 | succ m ih=>simp only [List.replicate_succ,V.lowl,ih];rfl
set_option maxHeartbeats 2000000 in
theorem o_10f (a b:List Nat) (ha:dsmall a) (hb:dsmall b) (hla:a.length≤100000) (hlb:b.length≤100000):Eqn Tryz.prog o_bp [.d (.sl a.length (dsD a)),.d (.sl b.length (dsD b))] [] (.d (nD (dval a*dval b))) []:=by
 refine Eqn.pure o_br Plain.ok ?_
 obtain ⟨n,hn⟩:∃n,n=a.length+b.length+1:=⟨_,rfl⟩
 have ew1:IntKind.i64.wrap ((a.length:Int)+b.length)=(a.length:Int)+b.length:=w64 (by omega) (by omega)
 have ew2:IntKind.i64.wrap ((a.length:Int)+b.length+1)=(n:Int):=by rw [w64 (by omega) (by omega)];omega
 have hnb:(n:Int)*8≤140737488355328:=by omega
 have hnb2:n≤17592186044416:=by omega
 refine cc (c':=?z184) ?_ ?_
 case refine_1=>cbv<;>exact rfl
 try simp only [dsD]
 refine A10 (fs ew1 (fs ew2 (fs hnb hnb2))) ?_;try with_reducible exact tt
 have hrep:List.replicate n (V.d (D.int .i64 0))=(List.replicate n 0).map fun x:Nat=>V.d (D.int .i64 x):=by simp
 rw [hrep]
 refine AW.loopT (α:=Nat×List Nat) 1 (fun s=>[(6,.d (.int .i64 (s.1:Nat)))]) (fun s=>[(0,⟨3,s.2.map fun x:Nat=>V.d (D.int .i64 x)⟩)]) (fun s=>s.1≤a.length∧s.2.length=n∧dsmall s.2∧dval s.2=dval (a.take s.1)*dval b∧∀j,s.1+b.length≤j→s.2.getD j 0=0) (fun s=>a.length-s.1) (0,List.replicate n 0) ?_ ?_ ⟨Nat.zero_le _,by simp,by intro x hx;simp [List.mem_replicate] at hx;omega,by rw [o_vn];simp [dval],by intro j _;simp only [List.getD,List.getElem?_replicate];split<;>rfl⟩ ?_ ?_ ?_
 ·simp
 ·simp
 ·simp
 ·simp
 rintro ⟨i,out⟩ ⟨hi,hol,hos,hov,hoz⟩
 simp only at hi hol hos hov hoz
 simp
 by_cases pa:i<a.length
 ·have hii:(i:Int)<a.length:=by omega
  have ewi:IntKind.i64.wrap ((i:Int)+1)=((i+1:Nat):Int):=by rw [w64 (by omega) (by omega)];omega
  have g1:=ha.getD i
  have ga:a[i]=a.getD i 0:=by simp [List.getD,pa]
  have hta:=o_vu a i
  have hal:∀j,i+max 0 b.length≤j→out.getD j 0=0:=fun j hj=>hoz j (by omega)
  refine A10 (fs pa hii) ?_;try with_reducible exact tt
  refine AW.loopT (α:=Nat×Nat×List Nat) 1 (fun s=>[(8,.d (.int .i64 (s.1:Nat))),(7,.d (.int .i64 (s.2.1:Nat)))]) (fun s=>[(0,⟨3,s.2.2.map fun x:Nat=>V.d (D.int .i64 x)⟩)]) (fun s=>s.1≤b.length+1∧s.2.1≤9999∧(s.1=b.length+1→s.2.1=0)∧s.2.2.length=n∧dsmall s.2.2∧dval s.2.2+10000^i*10000^s.1*s.2.1=dval out+10000^i*(a.getD i 0*dval (b.take s.1))∧∀j,i+max s.1 b.length≤j→s.2.2.getD j 0=0) (fun s=>b.length+1-s.1) (0,0,out) ?_ ?_ ⟨Nat.zero_le _,by simp,by simp,hol,hos,by simp [dval],hal⟩ ?_ ?_ ?_
  ·simp
  ·simp
  ·simp
  ·simp
  rintro ⟨k,c,o⟩ ⟨hk,hc,hck,hl,hs,hv,hz⟩
  simp only at hk hc hck hl hs hv hz
  simp
  have ewk:IntKind.i64.wrap ((k:Int)+1)=((k+1:Nat):Int):=by rw [w64 (by omega) (by omega)];omega
  have e99:∀x:Nat,((x:Int).tmod 10000=((x%10000:Nat):Int))∧((x:Int).tdiv 10000=((x/10000:Nat):Int)):=fun x=>⟨by rw [Int.tmod_eq_emod_of_nonneg (by omega)];omega,by rw [Int.tdiv_eq_ediv_of_nonneg (by omega)];omega⟩
  by_cases pb:k<b.length
  ·have hij:(k:Int)<b.length:=by omega
   have g2:=hb.getD k
   have gb:b[k]=b.getD k 0:=by simp [List.getD,pb]
   have htb:=o_vu b k
   obtain ⟨m,hm⟩:∃m,m=i+k:=⟨_,rfl⟩
   have hmo:m<o.length:=by omega
   have hmn:m<n:=by omega
   have go:=hs.getD m
   have gm:o[m]=o.getD m 0:=by simp [List.getD,hmo]
   have em:IntKind.i64.wrap ((i:Int)+k)=(m:Int):=by rw [w64 (by omega) (by omega)];omega
   have hpm:=Nat.mul_le_mul (show a.getD i 0≤9999 by omega) (show b.getD k 0≤9999 by omega)
   obtain ⟨p,hp⟩:∃p,p=a.getD i 0*b.getD k 0:=⟨_,rfl⟩
   rw [←hp] at hpm
   have ep:IntKind.i64.wrap (((a.getD i 0:Nat):Int)*(b.getD k 0:Nat))=(p:Int):=by rw [hp,←Int.natCast_mul];exact w64 (by omega) (by rw [←hp];omega)
   obtain ⟨x,hx⟩:∃x,x=o.getD m 0+c+p:=⟨_,rfl⟩
   have e1:IntKind.i64.wrap ((o.getD m 0:Nat)+(c:Int))=(o.getD m 0:Nat)+(c:Int):=w64 (by omega) (by omega)
   have e2:IntKind.i64.wrap ((o.getD m 0:Nat)+(c:Int)+p)=(x:Int):=by rw [w64 (by omega) (by omega)];omega
   obtain ⟨e3,e4⟩:=e99 x
   have hds:=o_10c o m (x%10000) hmo
   rw [show 10000^m=10000^i*10000^k by rw [hm,Nat.pow_add]] at hds
   have hst:=o_10e (A:=a.getD i 0) (bk:=b.getD k 0) hv hds (by rw [hx,hp])
   have hset:(o.map fun x:Nat=>V.d (D.int .i64 x)).set m (.d (.int .i64 (x%10000:Nat)))=(o.set m (x%10000)).map fun x:Nat=>V.d (D.int .i64 x):=by rw [List.map_set]
   have hs2:=hs.set m (x%10000) (Nat.mod_lt _ (by decide))
   have hl2:(o.set m (x%10000)).length=n:=by simpa using hl
   have hz2:∀j,i+max (k+1) b.length≤j→(o.set m (x%10000)).getD j 0=0:=fun j hj=>by rw [o_10d (by omega)];exact hz j (by omega)
   have hxq:x/10000≤9999:=by omega
   have e5:IntKind.i64.wrap ((x/10000:Nat):Int)=((x/10000:Nat):Int):=w64 (by omega) (by omega)
   rw [←htb] at hst
   clear hv hz hs hal hov hoz hta e99
   generalize o.set m (x%10000)=o2 at *
   generalize x%10000=r at *
   generalize x/10000=q at *
   generalize a.getD i 0=ai at *
   generalize b.getD k 0=bk at *
   generalize o.getD m 0=om at *
   refine A10 (fs pa (fs hii (fs pb (fs hij (fs ga (fs gb (fs hmo (fs hmn (fs hl (fs gm (fs em (fs ep (fs e1 (fs e2 (fs e3 (fs e4 (fs e5 (fs ewk hset)))))))))))))))))) ?_;try with_reducible exact tt
   exact ⟨k+1,q,o2,⟨by omega,hxq,by omega,hl2,hs2,hst,hz2⟩,by omega,⟨Sub1.refl _,Sub1.int (by omega)⟩,Subs.refl _⟩
  ·have hij:¬(k:Int)<b.length:=by omega
   by_cases hc0:0<c
   ·have hc0':(0:Int)<c:=by omega
    have hkb:k=b.length:=by
     rcases Nat.lt_or_ge b.length k with h | h
     ·have:=hck (by omega);omega
     ·omega
    obtain ⟨m,hm⟩:∃m,m=i+k:=⟨_,rfl⟩
    have hmo:m<o.length:=by omega
    have hmn:m<n:=by omega
    have gz:o.getD m 0=0:=hz m (by omega)
    have gm:o[m]=0:=by rw [←gz];simp [List.getD,hmo]
    have em:IntKind.i64.wrap ((i:Int)+k)=(m:Int):=by rw [w64 (by omega) (by omega)];omega
    have e2:IntKind.i64.wrap (c:Int)=(c:Int):=w64 (by omega) (by omega)
    have e3:(c:Int).tmod 10000=(c:Int):=by rw [Int.tmod_eq_emod_of_nonneg (by omega)];omega
    have e4:(c:Int).tdiv 10000=0:=by rw [Int.tdiv_eq_ediv_of_nonneg (by omega)];omega
    have hds:=o_10c o m c hmo
    rw [gz,Nat.mul_zero,Nat.add_zero,show 10000^m=10000^i*10000^k by rw [hm,Nat.pow_add]] at hds
    have hst:dval (o.set m c)+10000^i*10000^(k+1)*0=dval out+10000^i*(a.getD i 0*dval (b.take (k+1))):=by
     rw [Nat.mul_zero,Nat.add_zero,hds,hv,List.take_of_length_le (by omega),List.take_of_length_le (by omega)]
    have hset:(o.map fun x:Nat=>V.d (D.int .i64 x)).set m (.d (.int .i64 (c:Nat)))=(o.set m c).map fun x:Nat=>V.d (D.int .i64 x):=by rw [List.map_set]
    have hs2:=hs.set m c (by omega)
    have hl2:(o.set m c).length=n:=by simpa using hl
    have hz2:∀j,i+max (k+1) b.length≤j→(o.set m c).getD j 0=0:=fun j hj=>by rw [o_10d (by omega)];exact hz j (by omega)
    clear hv hz hs hal hov hoz hta e99 hds
    generalize o.set m c=o2 at *
    generalize a.getD i 0=ai at *
    refine A10 (fs pa (fs hii (fs pb (fs hij (fs hc0 (fs hc0' (fs hmo (fs hmn (fs hl (fs gm (fs em (fs e2 (fs e3 (fs e4 (fs ewk hset))))))))))))))) ?_;try with_reducible exact tt
    exact ⟨k+1,0,o2,⟨by omega,by omega,fun _=>rfl,hl2,hs2,by rw [ga];exact hst,hz2⟩,by omega,⟨Sub1.int (by omega),Sub1.int (by omega)⟩,Subs.refl _⟩
   ·have hc0':¬(0:Int)<c:=by omega
    have hcz:c=0:=by omega
    rw [hcz,Nat.mul_zero,Nat.add_zero,List.take_of_length_le (by omega)] at hv
    have hnv:dval o=dval (a.take (i+1))*dval b:=by
     rw [hv,hta,hov,Nat.add_mul,Nat.mul_assoc]
    have hnz:∀j,i+1+b.length≤j→o.getD j 0=0:=fun j hj=>hz j (by omega)
    clear hv hz hal hov hoz hta e99
    refine A10 (fs pa (fs hii (fs pb (fs hij (fs hc0 (fs hc0' ewi)))))) ?_;try with_reducible exact tt
    exact ⟨i+1,o,⟨by omega,hl,hs,hnv,hnz⟩,by omega,Sub1.int (by omega),Subs.refl _⟩
 ·have hii:¬(i:Int)<a.length:=by omega
  have hi2:i=a.length:=by omega
  rw [hi2,List.take_length] at hov
  have ht:=o_103 out hos (by omega)
  rw [hov,hol] at ht
  have htk:(dsD out).take n=dsD out:=List.take_of_length_le (by rw [o_zz];omega)
  have hob:(out.map fun x:Nat=>V.d (D.int .i64 x))=(dsD out).map V.d:=by simp [dsD]
  rw [hob]
  refine AW.freeze 0 1 ⟨3,(dsD out).map .d⟩ (dsD out) (by simp) rfl ?_
  simp [frzH,htk]
  refine A11 (fs pa hii) ht ?_;try with_reducible exact tt
theorem o_10g (x y:Nat) (hx:sizeD x≤100000) (hy:sizeD y≤100000):Eqn Tryz.prog o_bp [.d (nD x),.d (nD y)] [] (.d (nD (x*y))) []:=by
 have:=o_10f (decs x) (decs y) (o_w7 x) (o_w7 y) hx hy
 rwa [o_w6,o_w6] at this
end
section
open Go.RowKit
theorem o_10h {n m:Nat} (h:n<10000^m):sizeD n≤m:=o_vs (o_w8 n) (by rw [o_w6];exact h)
theorem o_10i {l:List Nat} {m:Nat} (h:m<l.length):dval (l.drop m)=l.getD m 0+10000*dval (l.drop (m+1)):=by
 rw [List.drop_eq_getElem_cons h,dval]
 simp [List.getD,h]
theorem o_10j {l:List Nat} {m v:Nat} (h:m<l.length):dval ((l.set m v).drop m)=v+10000*dval (l.drop (m+1)):=by
 rw [o_10i (by simpa using h),List.drop_set_of_lt (by omega)]
 simp [List.getD,h]

set_option maxHeartbeats 2000000 in
theorem o_10k (x y N:Nat) (h0:0<y) (hN:N≤50000) (hx:x<10000^N) (hy:y<10000^N):Eqn Tryz.prog o_da [.d (nD x),.d (nD y)] [] (.tup [.d (nD (x/y)),.d (nD (x%y))]) []:=by
 refine Eqn.pure o_dc Plain.ok ?_
 have sx:=o_10h hx
 have sy:=o_10h hy
 have ha:=o_w7 x
 have va:=o_w6 x
 have hfin:∀q r,q*y+r=x→r<y→nD q=nD (x/y)∧nD r=nD (x%y):=by
  intro q r h1 h2
  rw [←h1,Nat.mul_comm q y,Nat.mul_add_div h0,Nat.div_eq_of_lt h2,Nat.mul_add_mod,Nat.mod_eq_of_lt h2]
  exact ⟨rfl,rfl⟩
 refine cc (c':=?z185) ?_ ?_
 case refine_1=>cbv<;>exact rfl
 rw [show nD x = .sl (decs x).length ((decs x).map fun x:Nat=>D.int .i64 x) from rfl]
 unfold sizeD at sx
 generalize decs x=a at *
 rcases Nat.eq_zero_or_pos a.length with hz | hz
 ·have hx0:x=0:=by rw [←va,List.eq_nil_of_length_eq_zero hz];rfl
  obtain ⟨f1,f2⟩:=hfin 0 0 (by rw [hx0];simp) h0
  rw [←f1,←f2]
  clear f1 f2 hfin
  have ha0:a=[]:=List.eq_nil_of_length_eq_zero hz
  subst ha0
  have ht:=o_103 [] (by simp [dsmall]) (by simp)
  have hm:IntKind.i64.wrap (-1) = -1:=by decide
  have hm2:IntKind.i64.wrap (0-1) = -1:=by decide
  rw [show dval []=0 from rfl,show D.sl ([]:List Nat).length (dsD []) = .sl 0 [] from rfl] at ht
  rw [o_102] at ht ⊢
  refine A10 (fs hm hm2) ?_;try with_reducible exact tt
  refine AW.rounds 1 ?_
  refine AW.freeze 0 1 ⟨3,[]⟩ [] (by simp) rfl ?_
  simp [frzH]
  refine A01 ht ?_;try with_reducible exact tt
  exact Sub1.tup (Subs.cons (Sub1.refl _) (Subs.cons Sub1.nil (Subs.refl _)))
 ·have hnb:(a.length:Int)*8≤140737488355328:=by omega
  have hnb2:a.length≤17592186044416:=by omega
  have hnz:a.length≠0:=by omega
  have ew0:IntKind.i64.wrap ((a.length:Int)-1)=(a.length:Int)-1:=w64 (by omega) (by omega)
  refine A10 (fs hz (fs hnb (fs hnb2 (fs hnz ew0)))) ?_;try with_reducible exact tt
  have hrep:List.replicate a.length (V.d (D.int .i64 0))=(List.replicate a.length 0).map fun x:Nat=>V.d (D.int .i64 x):=by simp
  rw [hrep]
  refine AW.loopT (α:=Nat×Nat×List Nat) 1 (fun s=>[(8,.d (.int .i64 ((s.1:Int)-1))),(7,.d (nD s.2.1))]) (fun s=>[(0,⟨3,s.2.2.map fun x:Nat=>V.d (D.int .i64 x)⟩)]) (fun s=>s.1≤a.length∧s.2.1<y∧s.2.2.length=a.length∧dsmall s.2.2∧dval (s.2.2.drop s.1)*y+s.2.1=dval (a.drop s.1)) (fun s=>s.1) (a.length,0,List.replicate a.length 0) ?_ ?_ ⟨Nat.le_refl _,h0,by simp,by intro x hx;simp [List.mem_replicate] at hx;omega,by simp [dval]⟩ ?_ ?_ ?_
  ·simp
  ·simp
  ·simp
   exact Sub1.nil
  ·simp
  rintro ⟨j,r,out⟩ ⟨hj,hr,hol,hos,hov⟩
  simp only at hj hr hol hos hov
  rcases j with _ | m
  ·rw [List.drop_zero,List.drop_zero,va] at hov
   obtain ⟨f1,f2⟩:=hfin _ _ hov hr
   rw [←f1,←f2]
   have ht:=o_103 out hos (by omega)
   rw [hol] at ht
   have htk:(dsD out).take a.length=dsD out:=List.take_of_length_le (by rw [o_zz];omega)
   have hob:(out.map fun x:Nat=>V.d (D.int .i64 x))=(dsD out).map V.d:=by simp [dsD]
   rw [hob]
   clear f1 f2 hfin
   simp
   refine AW.freeze 0 1 ⟨3,(dsD out).map .d⟩ (dsD out) (by simp) rfl ?_
   simp [frzH,htk]
   refine A01 ht ?_;try with_reducible exact tt
  ·have hm:m<a.length:=by omega
   have hmo:m<out.length:=by omega
   have ga:a[m]=a.getD m 0:=by simp [List.getD,hm]
   have gl:=ha.getD m
   have hda:=o_10i hm
   have ewm:IntKind.i64.wrap ((m:Int)-1)=(m:Int)-1:=w64 (by omega) (by omega)
   have hr2:a.getD m 0+10000*r<10000*y:=by omega
   have hy1:10000*y<10000^(N+1):=by rw [Nat.pow_succ];omega
   have sr:=o_10h (Nat.lt_trans hr hy)
   have ht:=o_103 (a.getD m 0::decs r) (fun x hx=>by
    rcases List.mem_cons.1 hx with rfl | hx
    ·exact gl
    ·exact o_w7 r x hx) (by simp;unfold sizeD at sr;omega)
   rw [show dval (a.getD m 0::decs r)=a.getD m 0+10000*r by rw [dval,o_w6]] at ht
   simp only [List.length_cons,dsD,List.map_cons] at ht
   generalize a.getD m 0=am at *
   obtain ⟨r2,hr2d⟩:∃r2,r2=am+10000*r:=⟨_,rfl⟩
   rw [←hr2d] at ht hr2
   have hr2':=hr2
   simp
   by_cases hr0:r=0
   ·have ht0:decs r=[]:=by rw [hr0];rfl
    rw [ht0] at ht
    rw [show nD r = .sl 0 [] by rw [hr0];rfl]
    refine A10 (fs hm (fs ga ewm)) ?_;try with_reducible exact tt
    refine CallS.pf 2 1 ⟨3,[.d (.int .i64 am)]⟩ [.int .i64 am] (ht) (by first | rfl | (simp;done)) (R0 ?_);try with_reducible exact tt
    refine A00 ?_;try with_reducible exact tt
    refine AW.loopT (α:=Nat×Nat) 3 (fun s=>[(9,.d (.int .i64 (s.1:Nat))),(10,.d (.int .i64 (s.2:Nat)))]) (fun s=>[]) (fun s=>s.1<s.2∧s.2≤10000∧s.1*y≤r2∧r2<s.2*y) (fun s=>s.2-s.1) (0,10000) ?_ ?_ ⟨by decide,by decide,by omega,hr2⟩ ?_ ?_ ?_
    ·simp
    ·simp
    ·simp
    ·simp
    rintro ⟨lo,hi⟩ ⟨h1,h2,h3,h4⟩
    simp only at h1 h2 h3 h4
    simp
    by_cases hs:1<hi-lo
    ·obtain ⟨mid,hmid⟩:∃mid,mid=(lo+hi)/2:=⟨_,rfl⟩
     have w1:IntKind.i64.wrap ((hi:Int)-lo)=((hi-lo:Nat):Int):=by rw [w64 (by omega) (by omega)];omega
     have w2:IntKind.i64.wrap ((lo:Int)+hi)=((lo+hi:Nat):Int):=by rw [w64 (by omega) (by omega)];omega
     have w3:((lo:Int)+hi).tdiv 2=(mid:Int):=by rw [Int.tdiv_eq_ediv_of_nonneg (by omega)];omega
     have w4:IntKind.i64.wrap (mid:Int)=(mid:Int):=w64 (by omega) (by omega)
     have hs':(1:Int)<((hi-lo:Nat):Int):=by omega
     have c1:=o_106 mid (by omega)
     have hym:y*mid<10000^(N+1):=by
      refine Nat.lt_of_le_of_lt (Nat.mul_le_mul_left y (show mid≤10000 by omega)) ?_
      rw [Nat.mul_comm];exact hy1
     have c2:=o_10g y mid (by omega) (Nat.le_trans (o_10h (show mid<10000^2 by omega)) (by omega))
     have c3:=o_10a (y*mid) r2 (Nat.le_trans (o_10h hym) (by omega)) (Nat.le_trans (o_10h (Nat.lt_trans hr2' hy1)) (by omega))
     have d1:lo<mid∧mid<hi:=by omega
     clear hmid
     by_cases hle:y*mid≤r2
     ·have hz:¬0<cmpZ (y*mid) r2:=by unfold cmpZ;split<;>(try split)<;>omega
      have hz':cmpZ (y*mid) r2≤0:=by omega
      generalize cmpZ (y*mid) r2=z at *
      generalize hq:hi-lo=q at *
      refine A13 (fs w1 (fs hs (fs hs' (fs w2 (fs w3 (fs w4 (fs hz hz'))))))) c1 c2 c3 ?_;try with_reducible exact tt
      exact ⟨mid,hi,⟨by omega,h2,by rw [Nat.mul_comm];exact hle,h4⟩,by omega,⟨Sub1.refl _,Sub1.refl _⟩⟩
     ·have hz:0<cmpZ (y*mid) r2:=by unfold cmpZ;rw [if_neg (by omega),if_pos (by omega)];decide
      have hz':¬cmpZ (y*mid) r2≤0:=by omega
      generalize cmpZ (y*mid) r2=z at *
      generalize hq:hi-lo=q at *
      refine A13 (fs w1 (fs hs (fs hs' (fs w2 (fs w3 (fs w4 (fs hz hz'))))))) c1 c2 c3 ?_;try with_reducible exact tt
      exact ⟨lo,mid,⟨by omega,by omega,h3,by rw [Nat.mul_comm];omega⟩,by omega,⟨Sub1.refl _,Sub1.refl _⟩⟩
    ·have hhi:hi=lo+1:=by omega
     subst hhi
     have w1:IntKind.i64.wrap (((lo+1:Nat):Int)-lo)=1:=by rw [w64 (by omega) (by omega)];omega
     have w1':IntKind.i64.wrap ((lo:Int)+1-lo)=1:=by rw [w64 (by omega) (by omega)];omega
     have w5:(lo:Int)+1-lo=1:=by omega
     have c1:=o_106 lo (by omega)
     have hyl:y*lo≤r2:=by rw [Nat.mul_comm];exact h3
     have hylN:y*lo<10000^(N+1):=Nat.lt_of_le_of_lt hyl (Nat.lt_trans hr2' hy1)
     have c2:=o_10g y lo (by omega) (Nat.le_trans (o_10h (show lo<10000^2 by omega)) (by omega))
     have c3:=o_10b r2 (y*lo) hyl (Nat.le_trans (o_10h (Nat.lt_trans hr2' hy1)) (by omega)) (Nat.le_trans (o_10h hylN) (by omega))
     have hset:(out.map fun x:Nat=>V.d (D.int .i64 x)).set m (.d (.int .i64 (lo:Nat)))=(out.set m lo).map fun x:Nat=>V.d (D.int .i64 x):=by rw [List.map_set]
     have hnr:r2-y*lo<y:=by
      rw [Nat.add_mul,Nat.one_mul,Nat.mul_comm lo y] at h4
      omega
     have hnv:dval ((out.set m lo).drop m)*y+(r2-y*lo)=dval (a.drop m):=by
      rw [o_10j hmo,hda,←hov,hr2d,Nat.add_mul,Nat.mul_add,Nat.mul_comm lo y,Nat.mul_assoc]
      generalize dval (List.drop (m+1) out)*y=t at *
      omega
     have hs2:=hos.set m lo (by omega)
     have hl2:(out.set m lo).length=a.length:=by simpa using hol
     have w6:IntKind.i64.wrap 1=1:=by decide
     generalize y*lo=yl at *
     generalize r2-yl=r3 at *
     generalize out.set m lo=out2 at *
     refine A13 (fs w1 (fs w1' (fs w5 (fs w6 (fs hm (fs hmo (fs hol (fs hset ewm)))))))) c1 c2 c3 ?_;try with_reducible exact tt
     exact ⟨m,r3,out2,⟨by omega,hnr,hl2,hs2,hnv⟩,by omega,⟨Sub1.refl _,Sub1.refl _⟩,Subs.refl _⟩
   ·have hlr:(decs r).length≠0:=fun h=>hr0 (o_wa.1 (List.eq_nil_of_length_eq_zero h))
    have hlp:0<(decs r).length:=by omega
    rw [show nD r = .sl (decs r).length ((decs r).map fun x:Nat=>D.int .i64 x) from rfl]
    have hsb:((decs r).length:Int)+1≤17592186044416:=by unfold sizeD at sr;omega
    have hrl:((decs r).map fun x:Nat=>D.int .i64 x).length=(decs r).length:=by simp
    generalize (decs r).map (fun x:Nat=>D.int .i64 x)=RD at *
    generalize (decs r).length=L at *
    have htk:(D.int .i64 am::RD).take (1+L) = .int .i64 am::RD:=List.take_of_length_le (by simp;omega)
    rw [Nat.add_comm L 1,←htk] at ht
    refine A10 (fs hm (fs ga (fs ewm (fs hlr (fs hlp (fs hsb hrl)))))) ?_;try with_reducible exact tt
    refine CallS.pf 2 1 ⟨3,([D.int .i64 am]++RD).map V.d⟩ ([D.int .i64 am]++RD) (ht) (by first | rfl | (simp;done)) (R0 ?_);try with_reducible exact tt
    refine A00 ?_;try with_reducible exact tt
    refine AW.loopT (α:=Nat×Nat) 3 (fun s=>[(9,.d (.int .i64 (s.1:Nat))),(10,.d (.int .i64 (s.2:Nat)))]) (fun s=>[]) (fun s=>s.1<s.2∧s.2≤10000∧s.1*y≤r2∧r2<s.2*y) (fun s=>s.2-s.1) (0,10000) ?_ ?_ ⟨by decide,by decide,by omega,hr2⟩ ?_ ?_ ?_
    ·simp
    ·simp
    ·simp
    ·simp
    rintro ⟨lo,hi⟩ ⟨h1,h2,h3,h4⟩
    simp only at h1 h2 h3 h4
    simp
    by_cases hs:1<hi-lo
    ·obtain ⟨mid,hmid⟩:∃mid,mid=(lo+hi)/2:=⟨_,rfl⟩
     have w1:IntKind.i64.wrap ((hi:Int)-lo)=((hi-lo:Nat):Int):=by rw [w64 (by omega) (by omega)];omega
     have w2:IntKind.i64.wrap ((lo:Int)+hi)=((lo+hi:Nat):Int):=by rw [w64 (by omega) (by omega)];omega
     have w3:((lo:Int)+hi).tdiv 2=(mid:Int):=by rw [Int.tdiv_eq_ediv_of_nonneg (by omega)];omega
     have w4:IntKind.i64.wrap (mid:Int)=(mid:Int):=w64 (by omega) (by omega)
     have hs':(1:Int)<((hi-lo:Nat):Int):=by omega
     have c1:=o_106 mid (by omega)
     have hym:y*mid<10000^(N+1):=by
      refine Nat.lt_of_le_of_lt (Nat.mul_le_mul_left y (show mid≤10000 by omega)) ?_
      rw [Nat.mul_comm];exact hy1
     have c2:=o_10g y mid (by omega) (Nat.le_trans (o_10h (show mid<10000^2 by omega)) (by omega))
     have c3:=o_10a (y*mid) r2 (Nat.le_trans (o_10h hym) (by omega)) (Nat.le_trans (o_10h (Nat.lt_trans hr2' hy1)) (by omega))
     have d1:lo<mid∧mid<hi:=by omega
     clear hmid
     by_cases hle:y*mid≤r2
     ·have hz:¬0<cmpZ (y*mid) r2:=by unfold cmpZ;split<;>(try split)<;>omega
      have hz':cmpZ (y*mid) r2≤0:=by omega
      generalize cmpZ (y*mid) r2=z at *
      generalize hq:hi-lo=q at *
      refine A13 (fs w1 (fs hs (fs hs' (fs w2 (fs w3 (fs w4 (fs hz hz'))))))) c1 c2 c3 ?_;try with_reducible exact tt
      exact ⟨mid,hi,⟨by omega,h2,by rw [Nat.mul_comm];exact hle,h4⟩,by omega,⟨Sub1.refl _,Sub1.refl _⟩⟩
     ·have hz:0<cmpZ (y*mid) r2:=by unfold cmpZ;rw [if_neg (by omega),if_pos (by omega)];decide
      have hz':¬cmpZ (y*mid) r2≤0:=by omega
      generalize cmpZ (y*mid) r2=z at *
      generalize hq:hi-lo=q at *
      refine A13 (fs w1 (fs hs (fs hs' (fs w2 (fs w3 (fs w4 (fs hz hz'))))))) c1 c2 c3 ?_;try with_reducible exact tt
      exact ⟨lo,mid,⟨by omega,by omega,h3,by rw [Nat.mul_comm];omega⟩,by omega,⟨Sub1.refl _,Sub1.refl _⟩⟩
    ·have hhi:hi=lo+1:=by omega
     subst hhi
     have w1:IntKind.i64.wrap (((lo+1:Nat):Int)-lo)=1:=by rw [w64 (by omega) (by omega)];omega
     have w1':IntKind.i64.wrap ((lo:Int)+1-lo)=1:=by rw [w64 (by omega) (by omega)];omega
     have w5:(lo:Int)+1-lo=1:=by omega
     have c1:=o_106 lo (by omega)
     have hyl:y*lo≤r2:=by rw [Nat.mul_comm];exact h3
     have hylN:y*lo<10000^(N+1):=Nat.lt_of_le_of_lt hyl (Nat.lt_trans hr2' hy1)
     have c2:=o_10g y lo (by omega) (Nat.le_trans (o_10h (show lo<10000^2 by omega)) (by omega))
     have c3:=o_10b r2 (y*lo) hyl (Nat.le_trans (o_10h (Nat.lt_trans hr2' hy1)) (by omega)) (Nat.le_trans (o_10h hylN) (by omega))
     have hset:(out.map fun x:Nat=>V.d (D.int .i64 x)).set m (.d (.int .i64 (lo:Nat)))=(out.set m lo).map fun x:Nat=>V.d (D.int .i64 x):=by rw [List.map_set]
     have hnr:r2-y*lo<y:=by
      rw [Nat.add_mul,Nat.one_mul,Nat.mul_comm lo y] at h4
      omega
     have hnv:dval ((out.set m lo).drop m)*y+(r2-y*lo)=dval (a.drop m):=by
      rw [o_10j hmo,hda,←hov,hr2d,Nat.add_mul,Nat.mul_add,Nat.mul_comm lo y,Nat.mul_assoc]
      generalize dval (List.drop (m+1) out)*y=t at *
      omega
     have hs2:=hos.set m lo (by omega)
     have hl2:(out.set m lo).length=a.length:=by simpa using hol
     have w6:IntKind.i64.wrap 1=1:=by decide
     generalize y*lo=yl at *
     generalize r2-yl=r3 at *
     generalize out.set m lo=out2 at *
     refine A13 (fs w1 (fs w1' (fs w5 (fs w6 (fs hm (fs hmo (fs hol (fs hset ewm)))))))) c1 c2 c3 ?_;try with_reducible exact tt
     exact ⟨m,r3,out2,⟨by omega,hnr,hl2,hs2,hnv⟩,by omega,⟨Sub1.refl _,Sub1.refl _⟩,Subs.refl _⟩
end
section
open Go.RowKit
def hP:Nat:=2305843009213693951
def hsum (a b key:Nat):Nat:=(a*key%hP+b)%hP
end
section
open Go.RowKit
theorem o_10l (B hi lo w:Nat) (hB:B≤4294967296) (h1:hi≤4294967296) (h2:lo≤4294967296) (hw:hi*B+lo=w):∃N0 N1 N2 N3 N4 N5:D,Eqn Tryz.prog o_bg [.d (.int .i64 B)] [] (.d N3) []∧Eqn Tryz.prog o_bp [.d N3,.d N3] [] (.d N1) []∧Eqn Tryz.prog o_bp [.d .nilsl,.d N1] [] (.d N0) []∧Eqn Tryz.prog o_bg [.d (.int .i64 hi)] [] (.d N4) []∧Eqn Tryz.prog o_bg [.d (.int .i64 lo)] [] (.d N5) []∧Eqn Tryz.prog o_bp [.d N4,.d N3] [] (.d N2) []∧Eqn Tryz.prog o_fb [.d N2,.d N5] [] (.d (nD w)) []∧Eqn Tryz.prog o_fb [.d N0,.d (nD w)] [] (.d (nD w)) []:=by
 have sz:∀x,x≤4294967296→sizeD x≤100000:=fun x hx=>Nat.le_trans (o_10h (show x<10000^3 by omega)) (by omega)
 have bb:∀x y,x≤4294967296→y≤4294967296→x*y<10000^6:=fun x y hx hy=>Nat.lt_of_le_of_lt (Nat.mul_le_mul hx hy) (by decide)
 have szm:∀x y,x≤4294967296→y≤4294967296→sizeD (x*y)≤100000:=fun x y hx hy=>Nat.le_trans (o_10h (bb x y hx hy)) (by omega)
 have sw:sizeD w≤100000:=Nat.le_trans (o_10h (m:=7) (by have:=bb hi B h1 hB;omega)) (by omega)
 refine ⟨nD (0*(B*B)),nD (B*B),nD (hi*B),nD B,nD hi,nD lo,o_106 B (by omega),o_10g B B (sz B hB) (sz B hB),(o_10g 0 (B*B) (sz 0 (by omega)) (szm B B hB hB)).sub (Subs.cons Sub1.nil (Subs.refl _)),o_106 hi (by omega),o_106 lo (by omega),o_10g hi B (sz hi h1) (sz B hB),?_,?_⟩
 ·have:=o_109 (hi*B) lo (szm hi B h1 hB) (sz lo h2)
  rwa [hw] at this
 ·have:=o_109 (0*(B*B)) w (by rw [Nat.zero_mul];exact sz 0 (by omega)) sw
  rwa [show 0*(B*B)+w=w by rw [Nat.zero_mul,Nat.zero_add]] at this
theorem o_10m (w:Nat) (h:w<18446744073709551616):Eqn Tryz.prog o_f8 [.d (.sl 1 [.int .u64 w])] [] (.d (nD w)) []:=by
 refine Eqn.pure o_fa Plain.ok ?_
 obtain ⟨hi,hhi⟩:∃x,x=w/4294967296:=⟨_,rfl⟩
 obtain ⟨lo,hlo⟩:∃x,x=w%4294967296:=⟨_,rfl⟩
 have hw:hi*4294967296+lo=w:=by omega
 have e1:(w:Int).tdiv 4294967296=(hi:Int):=by rw [Int.tdiv_eq_ediv_of_nonneg (by omega)];omega
 have e2:(w:Int).tmod 4294967296=(lo:Int):=by rw [Int.tmod_eq_emod_of_nonneg (by omega)];omega
 have e3:IntKind.i64.wrap (hi:Int)=(hi:Int):=w64 (by omega) (by omega)
 have e4:IntKind.i64.wrap (lo:Int)=(lo:Int):=w64 (by omega) (by omega)
 have e5:IntKind.u64.wrap (hi:Int)=(hi:Int):=by rw [IntKind.wrap_u64];omega
 obtain ⟨N0,N1,N2,N3,N4,N5,s0,m0,m1,s1,s2,m2,a1,a2⟩:=o_10l 4294967296 hi lo w (by omega) (by omega) (by omega) hw
 have m9:IntKind.i64.wrap (-1) = -1:=by decide
 have m8:IntKind.i64.wrap (0-1) = -1:=by decide
 clear hhi hlo hw
 generalize nD w=N6 at *
 refine cc (c':=?z186) ?_ ?_
 case refine_1=>cbv<;>exact rfl
 refine A02 s0 m0 ?_;try with_reducible exact tt
 refine AW.rounds 2 ?_
 refine A18 (fs e1 (fs e2 (fs e3 (fs e4 (fs e5 (fs m8 m9)))))) s1 s2 s0 m1 m2 a1 a2 a2 ?_;try with_reducible exact tt
end
section
open Go.RowKit
def txtZ (z:Int):ByteArray:=if z<0 then ⟨#[45]⟩++txt z.natAbs else txt z.natAbs
def txtQ (q:Rat):ByteArray:=if q.den=1 then txtZ q.num else txtZ q.num++⟨#[47]⟩++txt q.den
theorem o_10n (n:Nat):(txt n).size=ndig n:=by
 unfold txt bst
 show ((decN n).map UInt8.ofNat).toArray.size=ndig n
 simp [o_q4]
theorem o_10o {n E:Nat} (h:n<2^E) (h0:0<E):(txt n).size≤E:=by
 rw [o_10n]
 exact o_px n E (Nat.lt_of_lt_of_le h (Nat.pow_le_pow_left (by decide) E)) h0
theorem o_10p (n:Nat):n<2^(64*size n):=by
 have h:=o_n1 (o_nx n)
 rw [o_nw] at h
 rw [Nat.pow_mul]
 exact h
theorem o_10q {n:Nat} (h:size n≤1000):(txt n).size≤64000:=by
 obtain ⟨k,hk⟩:∃k,k=64000:=⟨_,rfl⟩
 rw [←hk]
 exact o_10o (Nat.lt_of_lt_of_le (o_10p n) (Nat.pow_le_pow_right (by decide) (by omega))) (by omega)
theorem o_10r {z:Int} (h:size z.natAbs≤1000):(txtZ z).size≤64001:=by
 have:=o_10q h
 unfold txtZ
 split
 ·rw [ByteArray.size_append]
  show 1+_≤_
  omega
 ·omega
theorem o_10s (z:Int) (h:size z.natAbs≤1000):Eqn Tryz.prog o_cv [.d (wD z)] [] (.d (.str (txtZ z))) []:=by
 refine Eqn.pure o_cx (o_5e _) ?_
 have h1:=o_st z.natAbs h
 have hs:=o_10q h
 have e:txtZ z=if z<0 then ⟨#[45]⟩++txt z.natAbs else txt z.natAbs:=rfl
 refine cc (c':=?z187) ?_ ?_
 case refine_1=>cbv<;>exact rfl
 try simp only [wD]
 by_cases hz:z<0
 ·rw [if_pos hz] at e
  rw [e]
  have hd:decide (z<0)=true:=by simp [hz]
  have hl:(⟨#[45]⟩:ByteArray).size=1:=rfl
  rw [hd]
  generalize txt z.natAbs=S at *
  generalize natW z.natAbs=N at *
  refine A11 hl h1 ?_;try with_reducible exact tt
 ·rw [if_neg hz] at e
  rw [e]
  have hd:decide (z<0)=false:=by simp;omega
  rw [hd]
  generalize txt z.natAbs=S at *
  generalize natW z.natAbs=N at *
  refine A01 h1 ?_;try with_reducible exact tt
theorem o_10t (q:Rat) (h:RS q 1000):Eqn Tryz.prog o_9g [.d (rD q)] [] (.d (.str (txtQ q))) []:=by
 refine Eqn.pure o_9i (o_5e _) ?_
 have hwh:Eqn Tryz.prog o_cs [.d (rD q)] [] (.d (.bool (q.den-1==0))) []:=by
  refine Eqn.pure o_cu Plain.ok ?_
  have hz:=o_o7 (q.den-1)
  refine cc (c':=?z188) ?_ ?_
  case refine_1=>cbv<;>exact rfl
  try simp only [rD]
  generalize (q.den-1==0)=b at *
  generalize natW (q.den-1)=N at *
  refine A01 hz ?_;try with_reducible exact tt
 have hpos:=q.den_pos
 have h1:=o_10s q.num h.1
 have h2:=o_uj q (by have:=h.2;omega)
 have h3:=o_st q.den h.2
 have s1:=o_10r h.1
 have s2:=o_10q h.2
 have e:txtQ q=if q.den=1 then txtZ q.num else txtZ q.num++⟨#[47]⟩++txt q.den:=rfl
 refine cc (c':=?z189) ?_ ?_
 case refine_1=>cbv<;>exact rfl
 try simp only [rD,wD] at *
 by_cases hd:q.den=1
 ·rw [if_pos hd] at e
  rw [e]
  rw [show (q.den-1==0)=true by simp;omega] at hwh
  generalize txtZ q.num=S at *
  generalize natW (q.den-1)=N2 at *
  generalize natW q.num.natAbs=N at *
  generalize decide (q.num<0)=b at *
  refine A02 hwh h1 ?_;try with_reducible exact tt
 ·rw [if_neg hd] at e
  rw [e]
  rw [show (q.den-1==0)=false by simp;omega] at hwh
  generalize txtZ q.num=S at *
  generalize txt q.den=S2 at *
  generalize natW q.den=N3 at *
  generalize natW (q.den-1)=N2 at *
  generalize natW q.num.natAbs=N at *
  generalize decide (q.num<0)=b at *
  have hl:(⟨#[47]⟩:ByteArray).size=1:=rfl
  refine A14 hl hwh h1 h2 h3 ?_;try with_reducible exact tt
end
section
open Go.RowKit
theorem o_10u {x E:Nat} (h:x<2^E):x<10000^E:=Nat.lt_of_lt_of_le h (Nat.pow_le_pow_left (by decide) E)
theorem sizeB {x E m:Nat} (h:x<2^E) (hm:E≤13*m):sizeD x≤m:=by
 refine o_10h (Nat.lt_of_lt_of_le h (Nat.le_trans (Nat.pow_le_pow_right (by decide) hm) ?_))
 rw [Nat.pow_mul]
 exact Nat.pow_le_pow_left (by decide) m
theorem o_10v {x y E F:Nat} (hx:x<2^E) (hy:y<2^F):x*y<2^(E+F):=by
 rw [Nat.pow_add]
 exact Nat.mul_lt_mul'' hx hy
theorem o_10w {x y E:Nat} (hx:x<2^E) (hy:y<2^E):x+y<2^(E+1):=by
 rw [Nat.pow_succ];omega
theorem o_10x {x E F:Nat} (hx:x<2^E) (h:E≤F):x<2^F:=Nat.lt_of_lt_of_le hx (Nat.pow_le_pow_right (by decide) h)
set_option maxHeartbeats 1000000 in
theorem o_10y (x y E:Nat) (hE:E≤50000) (hx:x<2^E) (hy:y<2^E):Eqn Tryz.prog o_d7 [.d (nD x),.d (nD y)] [] (.d (nD (Nat.gcd x y))) []:=by
 refine Eqn.pure o_d9 Plain.ok ?_
 obtain ⟨g,hg⟩:∃g,g=Nat.gcd x y:=⟨_,rfl⟩
 rw [←hg]
 refine cc (c':=?z190) ?_ ?_
 case refine_1=>cbv<;>exact rfl
 refine A00 ?_;try with_reducible exact tt
 refine AW.loopT (α:=Nat×Nat) 0 (fun s=>[(0,.d (nD s.1)),(1,.d (nD s.2))]) (fun _=>[]) (fun s=>s.1<2^E∧s.2<2^E∧Nat.gcd s.1 s.2=g) (fun s=>s.2) (x,y) ?_ ?_ ⟨hx,hy,hg.symm⟩ ?_ ?_ ?_
 ·simp
 ·simp
 ·simp
 ·simp
 rintro ⟨a,b⟩ ⟨ha,hb,hgab⟩
 simp only at ha hb hgab
 simp
 by_cases hb0:b=0
 ·subst hb0
  rw [Nat.gcd_zero_right] at hgab
  subst hgab
  rw [o_102]
  generalize qA:nD a=A at *
  obtain ⟨nA,lA,rfl⟩:∃n l,A=D.sl n l:=⟨_,_,qA.symm⟩
  clear qA
  refine A00 ?_;try with_reducible exact tt
 ·have hdiv:=o_10k a b E (by omega) hE (o_10u ha) (o_10u hb)
  have hm:a%b<b:=Nat.mod_lt _ (by omega)
  have hgr:Nat.gcd b (a%b)=g:=by rw [←hgab,Nat.gcd_comm a b,Nat.gcd_rec b a,Nat.gcd_comm]
  have hsz:sizeD b≠0:=fun h=>hb0 (o_wa.1 (List.eq_nil_of_length_eq_zero h))
  have hsz2:0<sizeD b:=by omega
  have hsz3:(0:Int)<sizeD b:=by omega
  generalize a%b=r at *
  generalize a/b=q at *
  simp only [nD] at hdiv ⊢
  refine A11 (fs hsz2 hsz3) hdiv ?_;try with_reducible exact tt
  exact ⟨b,r,⟨hb,Nat.lt_trans hm hb,hgr⟩,hm,⟨Sub1.refl _,Sub1.refl _⟩⟩
def zW (p m:Nat):D:=.agg [nD p,nD m]
theorem o_10z (p m q n E:Nat) (hE:E≤200000) (h1:p<2^E) (h2:m<2^E) (h3:q<2^E) (h4:n<2^E):Eqn Tryz.prog o_bj [.d (zW p m),.d (zW q n)] [] (.d (zW (p+q) (m+n))) []:=by
 refine Eqn.pure o_bl Plain.ok ?_
 have a1:=o_109 p q (sizeB h1 (by omega)) (sizeB h3 (by omega))
 have a2:=o_109 m n (sizeB h2 (by omega)) (sizeB h4 (by omega))
 refine cc (c':=?z191) ?_ ?_
 case refine_1=>cbv<;>exact rfl
 try simp only [zW]
 generalize qD1:nD (p+q)=D1 at *
 obtain ⟨nD1,lD1,rfl⟩:∃n l,D1=D.sl n l:=⟨_,_,qD1.symm⟩
 clear qD1
 generalize qD2:nD (m+n)=D2 at *
 obtain ⟨nD2,lD2,rfl⟩:∃n l,D2=D.sl n l:=⟨_,_,qD2.symm⟩
 clear qD2
 generalize qD3:nD p=D3 at *
 obtain ⟨nD3,lD3,rfl⟩:∃n l,D3=D.sl n l:=⟨_,_,qD3.symm⟩
 clear qD3
 generalize qD4:nD m=D4 at *
 obtain ⟨nD4,lD4,rfl⟩:∃n l,D4=D.sl n l:=⟨_,_,qD4.symm⟩
 clear qD4
 generalize qD5:nD q=D5 at *
 obtain ⟨nD5,lD5,rfl⟩:∃n l,D5=D.sl n l:=⟨_,_,qD5.symm⟩
 clear qD5
 generalize qD6:nD n=D6 at *
 obtain ⟨nD6,lD6,rfl⟩:∃n l,D6=D.sl n l:=⟨_,_,qD6.symm⟩
 clear qD6
 refine A02 a1 a2 ?_;try with_reducible exact tt
theorem o_110 (p m:Nat):Eqn Tryz.prog o_bs [.d (zW p m)] [] (.d (zW m p)) []:=by
 refine Eqn.pure o_bu Plain.ok ?_
 refine cc (c':=?z192) ?_ ?_
 case refine_1=>cbv<;>exact rfl
 try simp only [zW]
 generalize qD3:nD p=D3 at *
 obtain ⟨nD3,lD3,rfl⟩:∃n l,D3=D.sl n l:=⟨_,_,qD3.symm⟩
 clear qD3
 generalize qD4:nD m=D4 at *
 obtain ⟨nD4,lD4,rfl⟩:∃n l,D4=D.sl n l:=⟨_,_,qD4.symm⟩
 clear qD4
 refine A00 ?_;try with_reducible exact tt
theorem o_111 (p m q n E:Nat) (hE:E≤200000) (h1:p<2^E) (h2:m<2^E) (h3:q<2^E) (h4:n<2^E):Eqn Tryz.prog o_c7 [.d (zW p m),.d (zW q n)] [] (.d (zW (p*q+m*n) (p*n+m*q))) []:=by
 refine Eqn.pure o_c9 Plain.ok ?_
 have a1:=o_10g p q (sizeB h1 (by omega)) (sizeB h3 (by omega))
 have a2:=o_10g m n (sizeB h2 (by omega)) (sizeB h4 (by omega))
 have a3:=o_10g p n (sizeB h1 (by omega)) (sizeB h4 (by omega))
 have a4:=o_10g m q (sizeB h2 (by omega)) (sizeB h3 (by omega))
 have a5:=o_109 (p*q) (m*n) (sizeB (o_10v h1 h3) (by omega)) (sizeB (o_10v h2 h4) (by omega))
 have a6:=o_109 (p*n) (m*q) (sizeB (o_10v h1 h4) (by omega)) (sizeB (o_10v h2 h3) (by omega))
 refine cc (c':=?z193) ?_ ?_
 case refine_1=>cbv<;>exact rfl
 try simp only [zW]
 generalize qD1:nD (p*q+m*n)=D1 at *
 obtain ⟨nD1,lD1,rfl⟩:∃n l,D1=D.sl n l:=⟨_,_,qD1.symm⟩
 clear qD1
 generalize qD2:nD (p*n+m*q)=D2 at *
 obtain ⟨nD2,lD2,rfl⟩:∃n l,D2=D.sl n l:=⟨_,_,qD2.symm⟩
 clear qD2
 generalize qD7:nD (p*q)=D7 at *
 obtain ⟨nD7,lD7,rfl⟩:∃n l,D7=D.sl n l:=⟨_,_,qD7.symm⟩
 clear qD7
 generalize qD8:nD (m*n)=D8 at *
 obtain ⟨nD8,lD8,rfl⟩:∃n l,D8=D.sl n l:=⟨_,_,qD8.symm⟩
 clear qD8
 generalize qD9:nD (p*n)=D9 at *
 obtain ⟨nD9,lD9,rfl⟩:∃n l,D9=D.sl n l:=⟨_,_,qD9.symm⟩
 clear qD9
 generalize qD0:nD (m*q)=D0 at *
 obtain ⟨nD0,lD0,rfl⟩:∃n l,D0=D.sl n l:=⟨_,_,qD0.symm⟩
 clear qD0
 generalize qD3:nD p=D3 at *
 obtain ⟨nD3,lD3,rfl⟩:∃n l,D3=D.sl n l:=⟨_,_,qD3.symm⟩
 clear qD3
 generalize qD4:nD m=D4 at *
 obtain ⟨nD4,lD4,rfl⟩:∃n l,D4=D.sl n l:=⟨_,_,qD4.symm⟩
 clear qD4
 generalize qD5:nD q=D5 at *
 obtain ⟨nD5,lD5,rfl⟩:∃n l,D5=D.sl n l:=⟨_,_,qD5.symm⟩
 clear qD5
 generalize qD6:nD n=D6 at *
 obtain ⟨nD6,lD6,rfl⟩:∃n l,D6=D.sl n l:=⟨_,_,qD6.symm⟩
 clear qD6
 refine A06 a1 a2 a3 a4 a5 a6 ?_;try with_reducible exact tt
theorem o_112 (p m E:Nat) (hE:E≤200000) (h1:p<2^E) (h2:m<2^E):Eqn Tryz.prog o_dg [.d (zW p m)] [] (.d (.bool (decide (p<m)))) []:=by
 refine Eqn.pure o_di Plain.ok ?_
 have a1:=o_10a p m (sizeB h1 (by omega)) (sizeB h2 (by omega))
 refine cc (c':=?z194) ?_ ?_
 case refine_1=>cbv<;>exact rfl
 try simp only [zW]
 have hz:decide (cmpZ p m<0)=decide (p<m):=by unfold cmpZ;split<;>(try split)<;>simp<;>omega
 rw [←hz]
 generalize cmpZ p m=z at *
 generalize qD3:nD p=D3 at *
 obtain ⟨nD3,lD3,rfl⟩:∃n l,D3=D.sl n l:=⟨_,_,qD3.symm⟩
 clear qD3
 generalize qD4:nD m=D4 at *
 obtain ⟨nD4,lD4,rfl⟩:∃n l,D4=D.sl n l:=⟨_,_,qD4.symm⟩
 clear qD4
 refine A01 a1 ?_;try with_reducible exact tt
theorem o_113 (p m E:Nat) (hE:E≤200000) (h1:p<2^E) (h2:m<2^E):Eqn Tryz.prog o_d4 [.d (zW p m)] [] (.d (nD ((p:Int)-m).natAbs)) []:=by
 refine Eqn.pure o_d6 Plain.ok ?_
 have a1:=o_10a p m (sizeB h1 (by omega)) (sizeB h2 (by omega))
 refine cc (c':=?z195) ?_ ?_
 case refine_1=>cbv<;>exact rfl
 try simp only [zW]
 rcases Nat.lt_or_ge p m with h | h
 ·have a2:=o_10b m p (by omega) (sizeB h2 (by omega)) (sizeB h1 (by omega))
  rw [show ((p:Int)-m).natAbs=m-p by omega]
  have hz:¬0≤cmpZ p m:=by unfold cmpZ;rw [if_pos h];decide
  have hz':cmpZ p m<0:=by omega
  generalize cmpZ p m=z at *
  generalize qD1:nD (m-p)=D1 at *
  obtain ⟨nD1,lD1,rfl⟩:∃n l,D1=D.sl n l:=⟨_,_,qD1.symm⟩
  clear qD1
  generalize qD3:nD p=D3 at *
  obtain ⟨nD3,lD3,rfl⟩:∃n l,D3=D.sl n l:=⟨_,_,qD3.symm⟩
  clear qD3
  generalize qD4:nD m=D4 at *
  obtain ⟨nD4,lD4,rfl⟩:∃n l,D4=D.sl n l:=⟨_,_,qD4.symm⟩
  clear qD4
  refine A12 (fs hz hz') a1 a2 ?_;try with_reducible exact tt
 ·have a2:=o_10b p m h (sizeB h1 (by omega)) (sizeB h2 (by omega))
  rw [show ((p:Int)-m).natAbs=p-m by omega]
  have hz:0≤cmpZ p m:=by unfold cmpZ;rw [if_neg (by omega)];split<;>decide
  have hz':¬cmpZ p m<0:=by omega
  generalize cmpZ p m=z at *
  generalize qD1:nD (p-m)=D1 at *
  obtain ⟨nD1,lD1,rfl⟩:∃n l,D1=D.sl n l:=⟨_,_,qD1.symm⟩
  clear qD1
  generalize qD3:nD p=D3 at *
  obtain ⟨nD3,lD3,rfl⟩:∃n l,D3=D.sl n l:=⟨_,_,qD3.symm⟩
  clear qD3
  generalize qD4:nD m=D4 at *
  obtain ⟨nD4,lD4,rfl⟩:∃n l,D4=D.sl n l:=⟨_,_,qD4.symm⟩
  clear qD4
  refine A12 (fs hz hz') a1 a2 ?_;try with_reducible exact tt
theorem o_114 (n:Nat) (h:n<9223372036854775808):Eqn Tryz.prog o_bd [.d (.int .i64 n)] [] (.d (zW n 0)) []:=by
 refine Eqn.pure o_bf Plain.ok ?_
 have h1:=o_10m n (by omega)
 have e1:IntKind.u64.wrap (n:Int)=n:=by rw [IntKind.wrap_u64];omega
 have e2:(0:Int)≤n:=by omega
 have e3:¬(n:Int)<0:=by omega
 refine cc (c':=?z196) ?_ ?_
 case refine_1=>cbv<;>exact rfl
 try simp only [zW]
 rw [o_102]
 generalize qN:nD n=N at *
 obtain ⟨nN,lN,rfl⟩:∃n l,N=D.sl n l:=⟨_,_,qN.symm⟩
 clear qN
 refine A10 (fs e1 (fs e2 e3)) ?_;try with_reducible exact tt
 refine CallS.pf 1 1 ⟨181,[.d (.int .u64 n)]⟩ [.int .u64 n] (h1) (by first | rfl | (simp [e1,e2,e3];done)) (R1 (fs e1 (fs e2 e3)) ?_);try with_reducible exact tt
 exact Sub1.aggd (Subs.cons (Sub1.refl _) (Subs.cons Sub1.nil (Subs.refl _)))
end
section
open Go.RowKit
@[simp] theorem o_115:intsV []=some []:=rfl
@[simp] theorem o_116 (n:Int):intsV [.d (.int .u8 n)]=some [n]:=rfl
theorem o_117 (n:Nat):∀i,i≤sizeD n→dval ((decs n).take i)=n%10000^i:=by
 intro i hi
 have h1:=o_vm ((decs n).take i) ((decs n).drop i)
 rw [List.take_append_drop,o_w6,List.length_take,Nat.min_eq_left (show i≤(decs n).length from hi)] at h1
 have h2:=o_w3 (o_w7 n) i
 generalize dval ((decs n).take i)=T at *
 generalize dval ((decs n).drop i)=R at *
 rw [h1,Nat.add_mul_mod_self_left,Nat.mod_eq_of_lt h2]
theorem o_118 (n i:Nat) (hi:i<sizeD n):(decs n).getD i 0=n/10000^i%10000:=by
 have h1:=o_vu (decs n) i
 rw [o_117 n (i+1) hi,o_117 n i (by omega),Nat.pow_succ,Nat.mod_mul] at h1
 have hp:0<10000^i:=Nat.pow_pos (by decide)
 have h2:10000^i*(n/10000^i%10000)=10000^i*(decs n).getD i 0:=by omega
 exact (Nat.eq_of_mul_eq_mul_left hp h2).symm
theorem o_119 (n:Nat):n<10000^sizeD n:=by
 have:=o_vo (o_w7 n)
 rwa [o_w6] at this
theorem o_11a (n i:Nat) (hi:i<sizeD n):0<n/10000^i:=by
 rcases Nat.eq_zero_or_pos (n/10000^i) with h | h
 ·have hp:0<10000^i:=Nat.pow_pos (by decide)
  have h1:n<10000^i:=(Nat.div_eq_zero_iff_lt hp).1 h
  have h2:=o_vs (ws:=decs n) (m:=i) (o_w8 n) (by rw [o_w6];exact h1)
  unfold sizeD at hi
  omega
 ·exact h
theorem pow4 (i:Nat):10000^i=10^(4*i):=by rw [Nat.pow_mul]
def dN (n i:Nat):List Nat:=if i<sizeD n then padN (4*i) n else decN n
def qD (w k:Nat):Nat:=w/10^k
theorem o_11b (w k:Nat):qD w (k+1)=qD w k/10:=by rw [qD,qD,Nat.div_div_eq_div_mul,Nat.pow_succ]
theorem o_11c (w k:Nat):padN (k+1) w=(48+qD w k%10)::padN k w:=by
 rw [Nat.add_comm,o_po];rfl
theorem o_11d (c:Nat) (l:List Nat):bst [c]++bst l=bst (c::l):=o_q1 [c] l
theorem o_11e (c:Nat):strOf [(c:Int)]=bst [c]:=rfl
set_option maxHeartbeats 2000000 in
theorem o_11f (n:Nat) (hn:sizeD n≤10000):Eqn Tryz.prog o_dd [.d (nD n)] [] (.d (.str (txt n))) []:=by
 refine Eqn.pure o_df Plain.ok ?_
 refine cc (c':=?z197) ?_ ?_
 case refine_1=>cbv<;>exact rfl
 try simp only [nD]
 by_cases h0:n=0
 ·subst h0
  have e:sizeD 0=0:=rfl
  rw [e,o_so]
  refine A00 ?_;try with_reducible exact tt
 have hL:0<sizeD n:=by
  rcases Nat.eq_zero_or_pos (sizeD n) with h | h
  ·exact absurd (o_wa.1 (List.eq_nil_of_length_eq_zero h)) h0
  ·exact h
 have hL':¬(sizeD n:Int)=0:=by omega
 have hL2:¬sizeD n=0:=by omega
 have hdl:(dsD (decs n)).length=sizeD n:=o_zz _
 have hget:=fun i h=>o_118 n i h
 have hgd:=fun i=>o_100 (decs n) i
 obtain ⟨DS,hDS⟩:∃DS,DS=dsD (decs n):=⟨_,rfl⟩
 rw [←hDS] at hdl hgd ⊢
 refine A10 (fs hL' hL2) ?_;try with_reducible exact tt
 refine AW.loopT (α:=Nat) 0 (fun i=>[(3,.d (.str (bst (dN n i)))),(4,.d (.int .i64 (i:Nat)))]) (fun i=>[]) (fun i=>i≤sizeD n) (fun i=>sizeD n-i) 0 ?_ ?_ (Nat.zero_le _) ?_ ?_ ?_
 ·simp
 ·simp
 ·simp [dN,hL,padN,o_q3]
 ·simp
 intro i hi
 simp
 by_cases hin:i<sizeD n
 ·have hin':(i:Int)<sizeD n:=by omega
  have hge:=o_11a n i hin
  have hgi:=hget i hin
  have hgdi:=hgd i (by unfold sizeD at hin;exact hin)
  rw [hgi] at hgdi
  obtain ⟨w,hw⟩:∃w,w=n/10000^i%10000:=⟨_,rfl⟩
  rw [←hw] at hgdi
  have hw4:w<10000:=by rw [hw];exact Nat.mod_lt _ (by decide)
  have hd0:dN n i=padN (4*i) n:=if_pos hin
  have hlen:(padN (4*i) n).length=4*i:=o_pn _ _
  obtain ⟨K,hK4,hKc,hKe⟩:∃K,K≤4∧(∀k,k≤K→(k<K↔(k<4∧(i<sizeD n-1∨0<qD w k))))∧padN K w++padN (4*i) n=dN n (i+1):=by
   by_cases hlast:i<sizeD n-1
   ·refine ⟨4,Nat.le_refl _,fun k hk=>by simp [hlast],?_⟩
    rw [dN,if_pos (by omega),show 4*(i+1)=4+4*i by omega,o_po,←pow4,hw,show (10000:Nat)=10^4 from rfl,o_pt]
   ·have hi1:i+1=sizeD n:=by omega
    have hwv:w=n/10000^i:=by
     rw [hw,Nat.mod_eq_of_lt]
     have:=o_119 n
     rw [←hi1,Nat.pow_succ] at this
     exact Nat.div_lt_of_lt_mul this
    refine ⟨ndig w,o_px w 4 hw4 (by decide),fun k hk=>?_,?_⟩
    ·have h4:=o_px w 4 hw4 (by decide)
     constructor
     ·intro hlt
      refine ⟨by omega,.inr ?_⟩
      rcases Nat.eq_zero_or_pos (qD w k) with h | h
      ·have h5:w<10^k:=(Nat.div_eq_zero_iff_lt (Nat.pow_pos (by decide))).1 h
       rcases Nat.eq_zero_or_pos k with rfl | hk0
       ·simp at h5;omega
       ·have:=o_px w k h5 hk0;omega
      ·exact h
     ·rintro ⟨-,h | h⟩
      ·exact absurd h hlast
      ·have:=o_py k w h
       have:=o_pv (w/10^k)
       omega
    ·rw [dN,if_neg (by omega),o_pz (4*i) n (by rw [←pow4];exact hge),hwv,←pow4]
     rfl
  rw [hd0]
  obtain ⟨P0,hP0⟩:∃P,P=padN (4*i) n:=⟨_,rfl⟩
  rw [←hP0] at hKe hlen ⊢
  have hgd2:∀h,DS[i]'h = .int .i64 (w:Nat):=fun h=>by
   rw [List.getElem?_eq_getElem h] at hgdi
   exact Option.some.inj hgdi
  have hi48:i<DS.length:=by omega
  clear hDS hgd hget hgi hgdi hge hd0
  refine A10 (fs hin (fs hin' (fs hgd2 hi48))) ?_;try with_reducible exact tt
  refine AW.loopT (α:=Nat) 0 (fun k=>[(3,.d (.str (bst (padN k w++P0)))),(5,.d (.int .i64 (qD w k:Nat))),(6,.d (.int .i64 (k:Nat)))]) (fun k=>[]) (fun k=>k≤K) (fun k=>K-k) 0 ?_ ?_ (Nat.zero_le _) ?_ ?_ ?_
  ·simp
  ·simp
  ·simp [padN,qD]
  ·simp
  intro k hk
  simp
  have xel:IntKind.i64.wrap ((sizeD n:Int)-1)=((sizeD n-1:Nat):Int):=by rw [w64 (by omega) (by omega)];omega
  have hkc:=hKc k hk
  have hqle:qD w k≤w:=Nat.div_le_self _ _
  obtain ⟨q,hq⟩:∃q,q=qD w k:=⟨_,rfl⟩
  rw [←hq] at hkc hqle ⊢
  generalize hL1:sizeD n-1=L1 at *
  by_cases hk4:k<4
  ·have hk4':(k:Int)<4:=by omega
   by_cases hla:i<L1
   ·have hla':(i:Int)<L1:=by omega
    have hkK:k<K:=hkc.2 ⟨hk4,.inl hla⟩
    have xek:IntKind.i64.wrap ((k:Int)+1)=((k+1:Nat):Int):=by rw [w64 (by omega) (by omega)];omega
    obtain ⟨r,hr⟩:∃r,r=q%10:=⟨_,rfl⟩
    have xm10:(q:Int).tmod 10=r:=by rw [hr];exact modN q 10
    have r10:r<10:=by rw [hr];exact Nat.mod_lt _ (by decide)
    obtain ⟨c,hc⟩:∃c,c=48+r:=⟨_,rfl⟩
    have xa48:IntKind.i64.wrap (48+(r:Int))=c:=by rw [w64 (by omega) (by omega)];omega
    have xu8c:IntKind.u8.wrap (c:Int)=c:=by rw [IntKind.wrap_u8];omega
    obtain ⟨q1,hq1⟩:∃q1,q1=q/10:=⟨_,rfl⟩
    have xdq:IntKind.i64.wrap ((q:Int)/10)=q1:=by rw [hq1,w64 (by omega) (by omega)];omega
    have xsO:=o_11e c
    obtain ⟨X,hX⟩:∃X,X=padN k w++P0:=⟨_,rfl⟩
    have hXl:X.length≤50000:=by rw [hX,List.length_append,o_pn,hlen];omega
    have xbc:=o_11d c X
    have hst:padN (k+1) w++P0=c::X:=by rw [o_11c,hX,hc,hr,hq];rfl
    have hq':qD w (k+1)=q1:=by rw [o_11b,←hq,hq1]
    rw [←hX]
    clear hr hc hq1 hX hKc hKe
    refine A10 (fs hk4 (fs hk4' (fs hla (fs hla' (fs xel (fs xek (fs xm10 (fs xa48 (fs xu8c (fs xdq (fs xsO xbc))))))))))) ?_;try with_reducible exact tt
    exact ⟨k+1,by omega,by omega,Sub1.of (by rw [hst]),Sub1.int (by rw [hq']),Sub1.int (by omega)⟩
   ·have hla':¬(i:Int)<L1:=by omega
    by_cases hq0:0<q
    ·have hq0':(0:Int)<q:=by omega
     have hkK:k<K:=hkc.2 ⟨hk4,.inr hq0⟩
     have xek:IntKind.i64.wrap ((k:Int)+1)=((k+1:Nat):Int):=by rw [w64 (by omega) (by omega)];omega
     obtain ⟨r,hr⟩:∃r,r=q%10:=⟨_,rfl⟩
     have xm10:(q:Int).tmod 10=r:=by rw [hr];exact modN q 10
     have r10:r<10:=by rw [hr];exact Nat.mod_lt _ (by decide)
     obtain ⟨c,hc⟩:∃c,c=48+r:=⟨_,rfl⟩
     have xa48:IntKind.i64.wrap (48+(r:Int))=c:=by rw [w64 (by omega) (by omega)];omega
     have xu8c:IntKind.u8.wrap (c:Int)=c:=by rw [IntKind.wrap_u8];omega
     obtain ⟨q1,hq1⟩:∃q1,q1=q/10:=⟨_,rfl⟩
     have xdq:IntKind.i64.wrap ((q:Int)/10)=q1:=by rw [hq1,w64 (by omega) (by omega)];omega
     have xsO:=o_11e c
     obtain ⟨X,hX⟩:∃X,X=padN k w++P0:=⟨_,rfl⟩
     have hXl:X.length≤50000:=by rw [hX,List.length_append,o_pn,hlen];omega
     have xbc:=o_11d c X
     have hst:padN (k+1) w++P0=c::X:=by rw [o_11c,hX,hc,hr,hq];rfl
     have hq':qD w (k+1)=q1:=by rw [o_11b,←hq,hq1]
     rw [←hX]
     clear hr hc hq1 hX hKc hKe
     refine A10 (fs hk4 (fs hk4' (fs hla (fs hla' (fs hq0 (fs hq0' (fs xel (fs xek (fs xm10 (fs xa48 (fs xu8c (fs xdq (fs xsO xbc))))))))))))) ?_;try with_reducible exact tt
     exact ⟨k+1,by omega,by omega,Sub1.of (by rw [hst]),Sub1.int (by rw [hq']),Sub1.int (by omega)⟩
    ·have hq0':¬(0:Int)<q:=by omega
     have hkK:k=K:=by
      rcases Nat.lt_or_ge k K with h | h
      ·have:=(hKc k hk).1 h;omega
      ·omega
     subst hkK
     rw [hKe]
     have xei:IntKind.i64.wrap ((i:Int)+1)=((i+1:Nat):Int):=by rw [w64 (by omega) (by omega)];omega
     refine A10 (fs hk4 (fs hk4' (fs hla (fs hla' (fs hq0 (fs hq0' (fs xel xei))))))) ?_;try with_reducible exact tt
     exact ⟨i+1,by omega,by omega,Sub1.refl _,Sub1.int (by omega)⟩
  ·have hk4':¬(k:Int)<4:=by omega
   have hkK:k=K:=by
    rcases Nat.lt_or_ge k K with h | h
    ·have:=(hKc k hk).1 h;omega
    ·omega
   subst hkK
   rw [hKe]
   have xei:IntKind.i64.wrap ((i:Int)+1)=((i+1:Nat):Int):=by rw [w64 (by omega) (by omega)];omega
   refine A10 (fs hk4 (fs hk4' (fs xel xei))) ?_;try with_reducible exact tt
   exact ⟨i+1,by omega,by omega,Sub1.refl _,Sub1.int (by omega)⟩
 ·have h2:i=sizeD n:=by omega
  subst h2
  have hd:dN n (sizeD n)=decN n:=if_neg (by omega)
  rw [hd]
  refine A00 ?_;try with_reducible exact tt
  exact Sub1.of rfl
end
section
open Go.RowKit
def qD3 (p m d:Nat):D:=.agg [nD p,nD m,nD d]
def qval (p m d:Nat):Rat:=mkRat ((p:Int)-m) d
theorem o_11g (p m d E:Nat) (hE:E≤200000) (h1:p<2^E) (h2:m<2^E) (h3:d<2^E):Eqn Tryz.prog o_bm [.d (zW p m),.d (nD d)] [] (.d (zW (p*d) (m*d))) []:=by
 refine Eqn.pure o_bo Plain.ok ?_
 have a1:=(o_111 p m d 0 E hE h1 h2 h3 (Nat.two_pow_pos _)).sub (args:=[.d (zW p m),.d (.agg [nD d,.nilsl])]) (Subs.cons (Sub1.refl _) (Subs.cons (Sub1.aggd (l:=[nD d,.nilsl]) (Subs.cons (Sub1.refl _) (Subs.cons Sub1.nil (Subs.refl _)))) (Subs.refl _)))
 simp only [Nat.mul_zero,Nat.add_zero,Nat.zero_add] at a1
 refine cc (c':=?z198) ?_ ?_
 case refine_1=>cbv<;>exact rfl
 try simp only [zW] at a1 ⊢
 generalize qD1:nD (p*d)=D1 at *
 obtain ⟨nD1,lD1,rfl⟩:∃n l,D1=D.sl n l:=⟨_,_,qD1.symm⟩
 clear qD1
 generalize qD2:nD (m*d)=D2 at *
 obtain ⟨nD2,lD2,rfl⟩:∃n l,D2=D.sl n l:=⟨_,_,qD2.symm⟩
 clear qD2
 generalize qD3:nD p=D3 at *
 obtain ⟨nD3,lD3,rfl⟩:∃n l,D3=D.sl n l:=⟨_,_,qD3.symm⟩
 clear qD3
 generalize qD4:nD m=D4 at *
 obtain ⟨nD4,lD4,rfl⟩:∃n l,D4=D.sl n l:=⟨_,_,qD4.symm⟩
 clear qD4
 generalize qD5:nD d=D5 at *
 obtain ⟨nD5,lD5,rfl⟩:∃n l,D5=D.sl n l:=⟨_,_,qD5.symm⟩
 clear qD5
 refine A01 a1 ?_;try with_reducible exact tt
theorem o_11h (p m d q n e E:Nat) (hE:E≤50000) (h1:p<2^E) (h2:m<2^E) (h3:d<2^E) (h4:q<2^E) (h5:n<2^E) (h6:e<2^E):Eqn Tryz.prog o_8y [.d (qD3 p m d),.d (qD3 q n e)] [] (.d (qD3 (p*e+q*d) (m*e+n*d) (d*e))) []:=by
 refine Eqn.pure o_90 Plain.ok ?_
 have a1:=o_11g p m e E (by omega) h1 h2 h6
 have a2:=o_11g q n d E (by omega) h4 h5 h3
 have a3:=o_10z (p*e) (m*e) (q*d) (n*d) (E+E) (by omega) (o_10v h1 h6) (o_10v h2 h6) (o_10v h4 h3) (o_10v h5 h3)
 have a4:=o_10g d e (sizeB h3 (by omega)) (sizeB h6 (by omega))
 refine cc (c':=?z199) ?_ ?_
 case refine_1=>cbv<;>exact rfl
 try simp only [qD3,zW] at a1 a2 a3 ⊢
 generalize qB1:nD (p*e+q*d)=B1 at *
 obtain ⟨nB1,lB1,rfl⟩:∃n l,B1=D.sl n l:=⟨_,_,qB1.symm⟩
 clear qB1
 generalize qB2:nD (m*e+n*d)=B2 at *
 obtain ⟨nB2,lB2,rfl⟩:∃n l,B2=D.sl n l:=⟨_,_,qB2.symm⟩
 clear qB2
 generalize qB3:nD (d*e)=B3 at *
 obtain ⟨nB3,lB3,rfl⟩:∃n l,B3=D.sl n l:=⟨_,_,qB3.symm⟩
 clear qB3
 generalize qB4:nD (p*e)=B4 at *
 obtain ⟨nB4,lB4,rfl⟩:∃n l,B4=D.sl n l:=⟨_,_,qB4.symm⟩
 clear qB4
 generalize qB5:nD (m*e)=B5 at *
 obtain ⟨nB5,lB5,rfl⟩:∃n l,B5=D.sl n l:=⟨_,_,qB5.symm⟩
 clear qB5
 generalize qB6:nD (q*d)=B6 at *
 obtain ⟨nB6,lB6,rfl⟩:∃n l,B6=D.sl n l:=⟨_,_,qB6.symm⟩
 clear qB6
 generalize qB7:nD (n*d)=B7 at *
 obtain ⟨nB7,lB7,rfl⟩:∃n l,B7=D.sl n l:=⟨_,_,qB7.symm⟩
 clear qB7
 generalize qD1:nD p=D1 at *
 obtain ⟨nD1,lD1,rfl⟩:∃n l,D1=D.sl n l:=⟨_,_,qD1.symm⟩
 clear qD1
 generalize qD2:nD m=D2 at *
 obtain ⟨nD2,lD2,rfl⟩:∃n l,D2=D.sl n l:=⟨_,_,qD2.symm⟩
 clear qD2
 generalize qD3:nD d=D3 at *
 obtain ⟨nD3,lD3,rfl⟩:∃n l,D3=D.sl n l:=⟨_,_,qD3.symm⟩
 clear qD3
 generalize qD4:nD q=D4 at *
 obtain ⟨nD4,lD4,rfl⟩:∃n l,D4=D.sl n l:=⟨_,_,qD4.symm⟩
 clear qD4
 generalize qD5:nD n=D5 at *
 obtain ⟨nD5,lD5,rfl⟩:∃n l,D5=D.sl n l:=⟨_,_,qD5.symm⟩
 clear qD5
 generalize qD6:nD e=D6 at *
 obtain ⟨nD6,lD6,rfl⟩:∃n l,D6=D.sl n l:=⟨_,_,qD6.symm⟩
 clear qD6
 refine A04 a1 a2 a3 a4 ?_;try with_reducible exact tt
theorem o_11i (p m d q n e E:Nat) (hE:E≤50000) (h1:p<2^E) (h2:m<2^E) (h3:d<2^E) (h4:q<2^E) (h5:n<2^E) (h6:e<2^E):Eqn Tryz.prog o_97 [.d (qD3 p m d),.d (qD3 q n e)] [] (.d (qD3 (p*q+m*n) (p*n+m*q) (d*e))) []:=by
 refine Eqn.pure o_99 Plain.ok ?_
 have a3:=o_111 p m q n E (by omega) h1 h2 h4 h5
 have a4:=o_10g d e (sizeB h3 (by omega)) (sizeB h6 (by omega))
 refine cc (c':=?z200) ?_ ?_
 case refine_1=>cbv<;>exact rfl
 try simp only [qD3,zW] at a3 ⊢
 generalize qB1:nD (p*q+m*n)=B1 at *
 obtain ⟨nB1,lB1,rfl⟩:∃n l,B1=D.sl n l:=⟨_,_,qB1.symm⟩
 clear qB1
 generalize qB2:nD (p*n+m*q)=B2 at *
 obtain ⟨nB2,lB2,rfl⟩:∃n l,B2=D.sl n l:=⟨_,_,qB2.symm⟩
 clear qB2
 generalize qB3:nD (d*e)=B3 at *
 obtain ⟨nB3,lB3,rfl⟩:∃n l,B3=D.sl n l:=⟨_,_,qB3.symm⟩
 clear qB3
 generalize qD1:nD p=D1 at *
 obtain ⟨nD1,lD1,rfl⟩:∃n l,D1=D.sl n l:=⟨_,_,qD1.symm⟩
 clear qD1
 generalize qD2:nD m=D2 at *
 obtain ⟨nD2,lD2,rfl⟩:∃n l,D2=D.sl n l:=⟨_,_,qD2.symm⟩
 clear qD2
 generalize qD3:nD d=D3 at *
 obtain ⟨nD3,lD3,rfl⟩:∃n l,D3=D.sl n l:=⟨_,_,qD3.symm⟩
 clear qD3
 generalize qD4:nD q=D4 at *
 obtain ⟨nD4,lD4,rfl⟩:∃n l,D4=D.sl n l:=⟨_,_,qD4.symm⟩
 clear qD4
 generalize qD5:nD n=D5 at *
 obtain ⟨nD5,lD5,rfl⟩:∃n l,D5=D.sl n l:=⟨_,_,qD5.symm⟩
 clear qD5
 generalize qD6:nD e=D6 at *
 obtain ⟨nD6,lD6,rfl⟩:∃n l,D6=D.sl n l:=⟨_,_,qD6.symm⟩
 clear qD6
 refine A02 a3 a4 ?_;try with_reducible exact tt
theorem o_11j (p m d:Nat):Eqn Tryz.prog o_91 [.d (qD3 p m d)] [] (.d (qD3 m p d)) []:=by
 refine Eqn.pure o_93 Plain.ok ?_
 have a3:=o_110 p m
 refine cc (c':=?z201) ?_ ?_
 case refine_1=>cbv<;>exact rfl
 try simp only [qD3,zW] at a3 ⊢
 generalize qD1:nD p=D1 at *
 obtain ⟨nD1,lD1,rfl⟩:∃n l,D1=D.sl n l:=⟨_,_,qD1.symm⟩
 clear qD1
 generalize qD2:nD m=D2 at *
 obtain ⟨nD2,lD2,rfl⟩:∃n l,D2=D.sl n l:=⟨_,_,qD2.symm⟩
 clear qD2
 generalize qD3:nD d=D3 at *
 obtain ⟨nD3,lD3,rfl⟩:∃n l,D3=D.sl n l:=⟨_,_,qD3.symm⟩
 clear qD3
 refine A01 a3 ?_;try with_reducible exact tt
theorem o_11k (n:Nat) (h:n<9223372036854775808):Eqn Tryz.prog o_8v [.d (.int .i64 n)] [] (.d (qD3 n 0 1)) []:=by
 refine Eqn.pure o_8x Plain.ok ?_
 have a1:=o_114 n h
 have a2:=o_106 1 (by decide)
 refine cc (c':=?z202) ?_ ?_
 case refine_1=>cbv<;>exact rfl
 try simp only [qD3,zW] at a1 ⊢
 generalize qD1:nD n=D1 at *
 obtain ⟨nD1,lD1,rfl⟩:∃n l,D1=D.sl n l:=⟨_,_,qD1.symm⟩
 clear qD1
 generalize qD2:nD 0=D2 at *
 obtain ⟨nD2,lD2,rfl⟩:∃n l,D2=D.sl n l:=⟨_,_,qD2.symm⟩
 clear qD2
 generalize qD3:nD 1=D3 at *
 obtain ⟨nD3,lD3,rfl⟩:∃n l,D3=D.sl n l:=⟨_,_,qD3.symm⟩
 clear qD3
 refine A02 a1 a2 ?_;try with_reducible exact tt
theorem o_11l (p m d:Nat):Eqn Tryz.prog o_fn [.d (zW p m),.d (nD d)] [] (.d (qD3 p m d)) []:=by
 refine Eqn.pure o_fp Plain.ok ?_
 refine cc (c':=?z203) ?_ ?_
 case refine_1=>cbv<;>exact rfl
 try simp only [qD3,zW]
 generalize qD1:nD p=D1 at *
 obtain ⟨nD1,lD1,rfl⟩:∃n l,D1=D.sl n l:=⟨_,_,qD1.symm⟩
 clear qD1
 generalize qD2:nD m=D2 at *
 obtain ⟨nD2,lD2,rfl⟩:∃n l,D2=D.sl n l:=⟨_,_,qD2.symm⟩
 clear qD2
 generalize qD3:nD d=D3 at *
 obtain ⟨nD3,lD3,rfl⟩:∃n l,D3=D.sl n l:=⟨_,_,qD3.symm⟩
 clear qD3
 refine A00 ?_;try with_reducible exact tt
theorem o_11m {p m d q n e:Nat} (hd:0<d) (he:0<e):qval (p*e+q*d) (m*e+n*d) (d*e)=qval p m d+qval q n e:=by
 unfold qval
 rw [Rat.mkRat_add_mkRat _ _ (by omega) (by omega)]
 congr 1
 simp only [Int.natCast_add,Int.natCast_mul,Int.sub_mul]
 omega
theorem o_11n {p m d q n e:Nat} (hd:0<d) (he:0<e):qval (p*q+m*n) (p*n+m*q) (d*e)=qval p m d*qval q n e:=by
 unfold qval
 rw [Rat.mkRat_mul_mkRat]
 congr 1
 simp only [Int.natCast_add,Int.natCast_mul,Int.sub_mul,Int.mul_sub]
 omega
theorem o_11o (p m d:Nat):qval m p d = -qval p m d:=by
 unfold qval
 rw [Rat.neg_mkRat]
 congr 1
 omega
theorem o_11p (n:Nat):qval n 0 1=(n:Rat):=by
 unfold qval
 rw [Int.natCast_zero,Int.sub_zero]
 exact Rat.mkRat_one n
theorem o_11q (p m d E:Nat) (hE:E≤50000) (h1:p<2^E) (h2:m<2^E) (h3:d<2^E) (h0:0<d):Eqn Tryz.prog o_9j [.d (qD3 p m d)] [] (.d (.str (txtQ (qval p m d)))) []:=by
 refine Eqn.pure o_9l (o_5e _) ?_
 obtain ⟨q1,q2,q3⟩:=o_u3 ((p:Int)-m) d h0
 obtain ⟨z,hz⟩:∃z,z=((p:Int)-m).natAbs:=⟨_,rfl⟩
 have hzb:z<2^E:=by rw [hz];omega
 have a1:=o_113 p m E (by omega) h1 h2
 rw [←hz] at a1 q1 q2
 have a2:=o_10y z d E (by omega) hzb h3
 have hg0:0<Nat.gcd z d:=Nat.gcd_pos_of_pos_right _ h0
 have hgb:Nat.gcd z d<2^E:=Nat.lt_of_le_of_lt (Nat.gcd_le_right _ h0) h3
 have a3:=o_10k z (Nat.gcd z d) E hg0 (by omega) (o_10u hzb) (o_10u hgb)
 have a4:=o_10k d (Nat.gcd z d) E hg0 (by omega) (o_10u h3) (o_10u hgb)
 have b1:z/Nat.gcd z d<2^E:=Nat.lt_of_le_of_lt (Nat.div_le_self _ _) hzb
 have b2:d/Nat.gcd z d<2^E:=Nat.lt_of_le_of_lt (Nat.div_le_self _ _) h3
 have hE0:0<E:=by
  rcases Nat.eq_zero_or_pos E with h | h
  ·subst h;simp at h3;omega
  ·exact h
 have a5:=o_11f (z/Nat.gcd z d) (sizeB b1 (by omega))
 have a6:=o_112 p m E (by omega) h1 h2
 have a7:=o_10a (d/Nat.gcd z d) 1 (sizeB b2 (by omega)) (by decide)
 have a8:=o_11f (d/Nat.gcd z d) (sizeB b2 (by omega))
 have a9:=o_106 1 (by decide)
 have s1:=o_10o b1 hE0
 have hl5:(⟨#[45]⟩:ByteArray).size=1:=rfl
 have hl7:(⟨#[47]⟩:ByteArray).size=1:=rfl
 have s2:=o_10o b2 hE0
 have hneg:decide (p<m)=decide ((qval p m d).num<0):=by
  rw [decide_eq_decide]
  unfold qval
  rw [q3];omega
 rw [hneg] at a6
 have e:txtQ (qval p m d)=if (qval p m d).den=1 then txtZ (qval p m d).num else txtZ (qval p m d).num++⟨#[47]⟩++txt (qval p m d).den:=rfl
 have e2:txtZ (qval p m d).num=if (qval p m d).num<0 then ⟨#[45]⟩++txt (qval p m d).num.natAbs else txt (qval p m d).num.natAbs:=rfl
 rw [show (qval p m d).num.natAbs=z/Nat.gcd z d from q1] at e2
 rw [show (qval p m d).den=d/Nat.gcd z d from q2] at e
 rw [e2] at e
 generalize (qval p m d).num=Q at *
 generalize txtQ (qval p m d)=T at *
 clear q1 q2 q3 hz hzb hg0 hgb e2 hneg b1 b2 h1 h2 h3
 refine cc (c':=?z204) ?_ ?_
 case refine_1=>cbv<;>exact rfl
 try simp only [qD3,zW] at a1 a6 ⊢
 generalize z%Nat.gcd z d=r1 at *
 generalize d%Nat.gcd z d=r2 at *
 generalize z/Nat.gcd z d=A at *
 generalize d/Nat.gcd z d=B at *
 generalize Nat.gcd z d=G at *
 generalize qD4:nD z=D4 at *
 obtain ⟨nD4,lD4,rfl⟩:∃n l,D4=D.sl n l:=⟨_,_,qD4.symm⟩
 clear qD4
 generalize qD1:nD p=D1 at *
 obtain ⟨nD1,lD1,rfl⟩:∃n l,D1=D.sl n l:=⟨_,_,qD1.symm⟩
 clear qD1
 generalize qD2:nD m=D2 at *
 obtain ⟨nD2,lD2,rfl⟩:∃n l,D2=D.sl n l:=⟨_,_,qD2.symm⟩
 clear qD2
 generalize qD3:nD d=D3 at *
 obtain ⟨nD3,lD3,rfl⟩:∃n l,D3=D.sl n l:=⟨_,_,qD3.symm⟩
 clear qD3
 generalize qD5:nD G=D5 at *
 obtain ⟨nD5,lD5,rfl⟩:∃n l,D5=D.sl n l:=⟨_,_,qD5.symm⟩
 clear qD5
 generalize qD6:nD A=D6 at *
 obtain ⟨nD6,lD6,rfl⟩:∃n l,D6=D.sl n l:=⟨_,_,qD6.symm⟩
 clear qD6
 generalize qD7:nD B=D7 at *
 obtain ⟨nD7,lD7,rfl⟩:∃n l,D7=D.sl n l:=⟨_,_,qD7.symm⟩
 clear qD7
 generalize qD8:nD r1=D8 at *
 obtain ⟨nD8,lD8,rfl⟩:∃n l,D8=D.sl n l:=⟨_,_,qD8.symm⟩
 clear qD8
 generalize qD9:nD r2=D9 at *
 obtain ⟨nD9,lD9,rfl⟩:∃n l,D9=D.sl n l:=⟨_,_,qD9.symm⟩
 clear qD9
 generalize qD0:nD 1=D0 at *
 obtain ⟨nD0,lD0,rfl⟩:∃n l,D0=D.sl n l:=⟨_,_,qD0.symm⟩
 clear qD0
 by_cases hB:B=1
 ·rw [if_pos hB] at e
  have hc:cmpZ B 1=0:=by subst hB;rfl
  rw [hc] at a7
  clear hc
  generalize txt A=S1 at *
  generalize txt B=S2 at *
  by_cases hQ:Q<0
  ·rw [if_pos hQ] at e
   subst e
   rw [show decide (Q<0)=true by simp [hQ]] at a6
   refine A110 (fs hl5 hl7) a1 a2 a3 a4 a5 a6 a7 a8 a9 a9 ?_;try with_reducible exact tt
  ·rw [if_neg hQ] at e
   subst e
   rw [show decide (Q<0)=false by simp;omega] at a6
   refine A110 (fs hl5 hl7) a1 a2 a3 a4 a5 a6 a7 a8 a9 a9 ?_;try with_reducible exact tt
 ·rw [if_neg hB] at e
  have hc:¬cmpZ B 1=0:=by unfold cmpZ;split<;>(try split)<;>omega
  generalize cmpZ B 1=y at *
  generalize txt A=S1 at *
  generalize txt B=S2 at *
  by_cases hQ:Q<0
  ·rw [if_pos hQ] at e
   subst e
   rw [show decide (Q<0)=true by simp [hQ]] at a6
   refine A110 (fs hl5 (fs hl7 hc)) a1 a2 a3 a4 a5 a6 a7 a8 a9 a9 ?_;try with_reducible exact tt
  ·rw [if_neg hQ] at e
   subst e
   rw [show decide (Q<0)=false by simp;omega] at a6
   refine A110 (fs hl5 (fs hl7 hc)) a1 a2 a3 a4 a5 a6 a7 a8 a9 a9 ?_;try with_reducible exact tt
theorem o_11r (x:Rat) (p m d E:Nat) (hx:x=qval p m d) (hs:RS x 1000) (hE:E≤50000) (h1:p<2^E) (h2:m<2^E) (h3:d<2^E) (h0:0<d):Eqn Tryz.prog o_7m [.d (rD x),.d (qD3 p m d)] [] (.d (.bool true)) []:=by
 refine Eqn.pure o_7o Plain.ok ?_
 have a1:=o_10t x hs
 have a2:=o_11q p m d E hE h1 h2 h3 h0
 rw [←hx] at a2
 refine cc (c':=?z205) ?_ ?_
 case refine_1=>cbv<;>exact rfl
 try simp only [rD,qD3] at a1 a2 ⊢
 generalize txtQ x=S at *
 generalize natW x.num.natAbs=N1 at *
 generalize natW (x.den-1)=N2 at *
 generalize decide (x.num<0)=b at *
 generalize qD1:nD p=D1 at *
 obtain ⟨nD1,lD1,rfl⟩:∃n l,D1=D.sl n l:=⟨_,_,qD1.symm⟩
 clear qD1
 generalize qD2:nD m=D2 at *
 obtain ⟨nD2,lD2,rfl⟩:∃n l,D2=D.sl n l:=⟨_,_,qD2.symm⟩
 clear qD2
 generalize qD3:nD d=D3 at *
 obtain ⟨nD3,lD3,rfl⟩:∃n l,D3=D.sl n l:=⟨_,_,qD3.symm⟩
 clear qD3
 refine A02 a1 a2 ?_;try with_reducible exact tt
end
section
section
variable {α β:Type} {f:α→List β} {n:Nat}
theorem o_11s (hf:∀x,(f x).length=n):∀l:List α,(l.flatMap f).length=l.length*n
 | []=>by simp
 | x::l=>by rw [List.flatMap_cons,List.length_append,hf,o_11s hf l,List.length_cons,Nat.add_mul];omega
theorem o_11t (hf:∀x,(f x).length=n):∀(l:List α) (i:Nat),(l.flatMap f).drop (i*n)=(l.drop i).flatMap f
 | l,0=>by simp
 | [],i+1=>by simp
 | x::l,i+1=>by
  rw [List.flatMap_cons,List.drop_succ_cons,←o_11t hf l i]
  have h:=hf x
  rw [List.drop_append,List.drop_of_length_le (by rw [h,Nat.add_mul];omega),h,Nat.add_mul]
  simp
theorem o_11u (hf:∀x,(f x).length=n) (l:List α) (i:Nat) (h:i<l.length):((l.flatMap f).drop (i*n)).take n=f l[i]:=by
 rw [o_11t hf,List.drop_eq_getElem_cons h,List.flatMap_cons]
 conv=>lhs;arg 1;rw [←hf l[i]]
 simp
end
end
section
open Go.RowKit
end
section
open Go.RowKit
end
section
open Go.RowKit
def valM (a k:Nat):Rat:=(a:Rat)*((mkRat ((a+1:Nat):Int) a)^k-((1:Nat):Rat))

theorem o_11v {x n:Nat} (h:bitsN x*n≤8192):size (x^n)≤129:=by
 refine o_s1 (n:=bitsN x*n+1) ?_ (by omega)
 rw [Nat.pow_succ]
 have h3:x^n≤(2^bitsN x)^n:=Nat.pow_le_pow_left (Nat.le_of_lt (o_q7 x)) n
 rw [←Nat.pow_mul] at h3
 have:=Nat.two_pow_pos (bitsN x*n)
 omega
end
section
open Go.RowKit
def chM (a k:Nat):Rat:=mkRat (a:Int) (a+1)^k
theorem o_11w {a:Nat}:(mkRat (a:Int) (a+1)).num=(a:Int)∧(mkRat (a:Int) (a+1)).den=a+1:=by
 obtain ⟨p1,p2,p3⟩:=o_u3 (a:Int) (a+1) (by omega)
 rw [Int.natAbs_natCast] at p1 p2
 have hg:Nat.gcd a (a+1)=1:=by
  rcases Nat.eq_zero_or_pos a with rfl | h
  ·rfl
  ·rw [Nat.gcd_rec,show (a+1)%a=1%a by rw [Nat.add_mod_left],←Nat.gcd_rec,Nat.gcd_one_right]
 rw [hg,Nat.div_one] at p1 p2
 refine ⟨?_,p2⟩
 have:¬(mkRat (a:Int) (a+1)).num<0:=fun h=>by have:=p3.1 h;omega
 omega
end
end Go.Proofs.YtabnkmpkcfjkmaaGreatDoor.Am

namespace Go.Proofs.YtabnkmpkcfjkmaaGreatDoor.Am
section
open Go.RowKit
theorem o_11x (a k:Nat) (h1:1≤a) (h2:a≤4096) (hk:k≤1023) (hb:bitsN (a+1)*k≤8192):Eqn Tryz.prog o_k5 [.d (.int .i64 a),.d (.int .i64 k)] [] (.tup [.d (rD (chM a k)),.d (.int .i64 0)]) []∧RS (chM a k) 300:=by
 obtain ⟨q1,q2⟩:=o_11w (a:=a)
 have hmk:=o_vl a (a+1) (by omega) (by omega) (by omega)
 obtain ⟨x,hx⟩:∃x,x=mkRat (a:Int) (a+1):=⟨_,rfl⟩
 have hv:chM a k=x^k:=by rw [hx];rfl
 rw [←hx] at q1 q2 hmk
 have hba:bitsN a≤bitsN (a+1):=o_q8 (Nat.lt_trans (Nat.lt_succ_self a) (o_q7 _))
 have hb2:bitsN a*k≤8192:=Nat.le_trans (Nat.mul_le_mul_right _ hba) hb
 have le8:∀q:Nat,q*k≤8192→q≤1∨k≤8192/q:=fun q h=>by
  by_cases h1:q≤1
  ·exact .inl h1
  ·right;rw [Nat.le_div_iff_mul_le (by omega),Nat.mul_comm];exact h
 have hxs:RS x 129:=⟨by rw [q1,Int.natAbs_natCast];exact Nat.le_trans (o_p8 (by omega)) (by omega),by rw [q2];exact Nat.le_trans (o_p8 (by omega)) (by omega)⟩
 have hpow:=o_vj x k (by omega) (by omega) (by rw [q1,Int.natAbs_natCast];exact le8 _ hb2) (by rw [q2];exact le8 _ hb) hxs (by rw [q1,Int.natAbs_natCast];exact Nat.le_trans (o_11v hb2) (by omega)) (by rw [q2];exact Nat.le_trans (o_11v hb) (by omega))
 have hps:RS (x^k) 129:=⟨by rw [Rat.num_pow,Int.natAbs_pow,q1,Int.natAbs_natCast];exact o_11v hb2,by rw [Rat.den_pow,q2];exact o_11v hb⟩
 refine ⟨?_,by rw [hv];exact hps.le (by omega)⟩
 have hw:=o_vd a k
 rw [show wrongM (a:Int) [(k:Int)]=0 by unfold wrongM;rw [if_pos (by omega),if_pos (by simp [okK];omega)]] at hw
 have e1:IntKind.i64.wrap ((a:Int)+1)=((a+1:Nat):Int):=by rw [w64 (by omega) (by omega)];omega
 refine Eqn.pure o_k7 Plain.ok ?_
 rw [hv]
 clear hv hxs hps q1 q2 hx
 generalize x^k=xk at *
 generalize ha1:a+1=a' at *
 refine cc (c':=?z214) ?_ ?_
 case refine_1=>cbv<;>exact rfl
 try simp only [rD] at hmk hpow ⊢
 refine G0 ?_;try with_reducible exact tt
 refine CallS.pf 1 1 ⟨3,_⟩ [.int .i64 k] (hw) (by first | rfl | (simp [e1];done)) (R1 e1 ?_);try with_reducible exact tt
 refine AW.cond rfl (fun h=>?_) (fun h=>?_)
 ·simp at h
 refine G1 e1 ?_;try with_reducible exact tt
 refine CallS.pu (hmk) (R0 ?_);try with_reducible exact tt
 refine CallS.pu (hpow) (R0 ?_);try with_reducible exact tt
end
section
open Go.RowKit
def renA:Go.Shelf.Ren:=⟨fun | 6=>126 | 15=>90 | 14=>167 | 28=>143 | 29=>144 | 20=>193 | 21=>194 | 22=>195 | 23=>196 | 24=>197 | 25=>198 | 26=>199 | 27=>200 | 46=>215 | 47=>216 | 48=>217 | 49=>218 | 50=>219 | 57=>227 | n=>n,fun | 22=>66 | 24=>75 | 25=>193 | 3=>3 | 39=>161 | 0=>0 | 53=>204 | 55=>181 | 4=>4 | 46=>250 | 45=>249 | 50=>254 | 5=>5 | 9=>9 | 66=>269 | 70=>273 | 76=>281 | 77=>282 | n=>n,fun n=>n⟩
theorem sortL:Go.Proofs.SlLaysF0.n6 Tryz.prog renA where
 mixed:=by kernel_rfl
 f6 := ⟨"slices.SortFunc[[]tallymark/pmf.Atom,tallymark/pmf.Atom]", of_decide_eq_true (by kernel_rfl), Tryz.func126.trans (congrArg some (by kernel_rfl))⟩
 f14 := ⟨"slices.pdqsortCmpFunc[tallymark/pmf.Atom]", of_decide_eq_true (by kernel_rfl), Tryz.func167.trans (congrArg some (by kernel_rfl))⟩
 f15:=Tryz.func90.trans (congrArg some (by kernel_rfl))
 f20 := ⟨"slices.insertionSortCmpFunc[tallymark/pmf.Atom]", of_decide_eq_true (by kernel_rfl), Tryz.func193.trans (congrArg some (by kernel_rfl))⟩
 f21 := ⟨"slices.heapSortCmpFunc[tallymark/pmf.Atom]", of_decide_eq_true (by kernel_rfl), Tryz.func194.trans (congrArg some (by kernel_rfl))⟩
 f22 := ⟨"slices.breakPatternsCmpFunc[tallymark/pmf.Atom]", of_decide_eq_true (by kernel_rfl), Tryz.func195.trans (congrArg some (by kernel_rfl))⟩
 f23 := ⟨"slices.choosePivotCmpFunc[tallymark/pmf.Atom]", of_decide_eq_true (by kernel_rfl), Tryz.func196.trans (congrArg some (by kernel_rfl))⟩
 f24 := ⟨"slices.reverseRangeCmpFunc[tallymark/pmf.Atom]", of_decide_eq_true (by kernel_rfl), Tryz.func197.trans (congrArg some (by kernel_rfl))⟩
 f25 := ⟨"slices.partialInsertionSortCmpFunc[tallymark/pmf.Atom]", of_decide_eq_true (by kernel_rfl), Tryz.func198.trans (congrArg some (by kernel_rfl))⟩
 f26 := ⟨"slices.partitionEqualCmpFunc[tallymark/pmf.Atom]", of_decide_eq_true (by kernel_rfl), Tryz.func199.trans (congrArg some (by kernel_rfl))⟩
 f27 := ⟨"slices.partitionCmpFunc[tallymark/pmf.Atom]", of_decide_eq_true (by kernel_rfl), Tryz.func200.trans (congrArg some (by kernel_rfl))⟩
 f28:=Tryz.func143.trans (congrArg some (by kernel_rfl))
 f29:=Tryz.func144.trans (congrArg some (by kernel_rfl))
 f46 := ⟨"slices.siftDownCmpFunc[tallymark/pmf.Atom]", of_decide_eq_true (by kernel_rfl), Tryz.func215.trans (congrArg some (by kernel_rfl))⟩
 f47:=Tryz.func216.trans (congrArg some (by kernel_rfl))
 f48:=Tryz.func217.trans (congrArg some (by kernel_rfl))
 f49 := ⟨"slices.medianAdjacentCmpFunc[tallymark/pmf.Atom]", of_decide_eq_true (by kernel_rfl), Tryz.func218.trans (congrArg some (by kernel_rfl))⟩
 f50 := ⟨"slices.medianCmpFunc[tallymark/pmf.Atom]", of_decide_eq_true (by kernel_rfl), Tryz.func219.trans (congrArg some (by kernel_rfl))⟩
 f57 := ⟨"slices.order2CmpFunc[tallymark/pmf.Atom]", of_decide_eq_true (by kernel_rfl), Tryz.func227.trans (congrArg some (by kernel_rfl))⟩
 t0:=Tryz.underlying0
 a0:=Tryz.isAgg0
 z0:=Tryz.sizeOf0
 v0:=Tryz.zeroValue0
 t3:=Tryz.underlying3
 a3:=Tryz.isAgg3
 z3:=Tryz.sizeOf3
 v3:=Tryz.zeroValue3
 t4:=Tryz.underlying4
 a4:=Tryz.isAgg4
 z4:=Tryz.sizeOf4
 v4:=Tryz.zeroValue4
 t5:=Tryz.underlying5
 a5:=Tryz.isAgg5
 z5:=Tryz.sizeOf5
 v5:=Tryz.zeroValue5
 t9:=Tryz.underlying9
 a9:=Tryz.isAgg9
 z9:=Tryz.sizeOf9
 v9:=Tryz.zeroValue9
 t22:=Tryz.underlying66
 a22:=Tryz.isAgg66
 z22:=Tryz.sizeOf66
 v22:=Tryz.zeroValue66
 t25:=Tryz.underlying193
 a25:=Tryz.isAgg193
 z25:=Tryz.sizeOf193
 v25:=Tryz.zeroValue193
 t39:=Tryz.underlying161
 a39:=Tryz.isAgg161
 z39:=Tryz.sizeOf161
 v39:=Tryz.zeroValue161
 t45:=Tryz.underlying249
 a45:=Tryz.isAgg249
 z45:=Tryz.sizeOf249
 v45:=Tryz.zeroValue249
 t46:=Tryz.underlying250
 a46:=Tryz.isAgg250
 z46:=Tryz.sizeOf250
 v46:=Tryz.zeroValue250
 t50:=Tryz.underlying254
 a50:=Tryz.isAgg254
 z50:=Tryz.sizeOf254
 v50:=Tryz.zeroValue254
 t53:=Tryz.underlying204
 a53:=Tryz.isAgg204
 z53:=Tryz.sizeOf204
 v53:=Tryz.zeroValue204
 t55:=Tryz.underlying181
 a55:=Tryz.isAgg181
 z55:=Tryz.sizeOf181
 v55:=Tryz.zeroValue181
 t66:=Tryz.underlying269
 a66:=Tryz.isAgg269
 z66:=Tryz.sizeOf269
 v66:=Tryz.zeroValue269
 t70:=Tryz.underlying273
 a70:=Tryz.isAgg273
 z70:=Tryz.sizeOf273
 v70:=Tryz.zeroValue273
 t76:=Tryz.underlying281
 a76:=Tryz.isAgg281
 z76:=Tryz.sizeOf281
 v76:=Tryz.zeroValue281
 t77:=Tryz.underlying282
 a77:=Tryz.isAgg282
 z77:=Tryz.sizeOf282
 v77:=Tryz.zeroValue282
theorem aggAtom:∀w,(Go.isAgg (renA.t 24)).run Tryz.prog w = .ok true w:=Tryz.isAgg75
theorem sizeAtom:∀w,(Go.sizeOf (renA.t 24)).run Tryz.prog w = .ok 6 w:=Tryz.sizeOf75
end
section
open Go.RowKit
theorem o_11y {x m:Nat} (h:x<10000^m):sizeD x≤m:=o_vs (o_w8 x) (by rwa [o_w6])
theorem o_11z {n m:Nat} (h:n≤m):sizeD (2^n)≤m+1:=o_11y (Nat.lt_of_le_of_lt (Nat.pow_le_pow_left (by decide:2≤10000) n) (Nat.pow_lt_pow_right (by decide) (by omega)))
theorem o_120 {m n:Nat} (h:m≤n):cmpZ m n≤0:=by unfold cmpZ;split;decide;split<;>omega
theorem o_121 (x n:Nat) (hn:n≤100000) (hx:∀i,i≤n→sizeD (x^i)≤100000) (hx1:sizeD x≤100000):Eqn Tryz.prog o_fk [.d (nD x),.d (.int .i64 n)] [] (.d (nD (x^n))) []:=by
 refine Eqn.pure o_fm Plain.ok ?_
 refine cc (c':=?z217) ?_ ?_
 case refine_1=>cbv<;>exact rfl
 have h1:=o_106 1 (by decide)
 refine A01 h1 ?_;try with_reducible exact tt
 refine AW.loopT (α:=Nat) 0 (fun i=>[(5,.d (nD (x^i))),(6,.d (.int .i64 (i:Nat)))]) (fun i=>[]) (fun i=>i≤n) (fun i=>n-i) 0 ?_ ?_ (Nat.zero_le _) ?_ ?_ ?_
 ·simp
 ·simp
 ·simp
 ·simp
 intro i hi
 simp
 by_cases hin:i<n
 ·have hin':(i:Int)<n:=by omega
  have hm:=o_10g (x^i) x (hx i hi) hx1
  rw [←Nat.pow_succ] at hm
  have xei:IntKind.i64.wrap ((i:Int)+1)=((i+1:Nat):Int):=by rw [w64 (by omega) (by omega)];omega
  obtain ⟨Y,hY⟩:∃Y,Y=x^(i+1):=⟨_,rfl⟩
  rw [←hY] at hm
  generalize x^i=Y0 at *
  refine A11 (fs hin (fs hin' xei)) hm ?_;try with_reducible exact tt
  exact ⟨i+1,by omega,by omega,Sub1.of (by rw [hY]),Sub1.int (by omega)⟩
 ·have:i=n:=by omega
  subst this
  refine A00 ?_;try with_reducible exact tt
theorem o_122 (a B:Nat) (ha:a<2^B) (hB:B≤10000) (ha0:sizeD a≤100000):Eqn Tryz.prog o_ft [.d (nD a)] [] (.d (.int .i64 (bitsN a:Nat))) []:=by
 refine Eqn.pure o_fv Plain.ok ?_
 refine cc (c':=?z218) ?_ ?_
 case refine_1=>cbv<;>exact rfl
 have h1:=o_106 1 (by decide)
 have hbB:=o_q8 ha
 refine A01 h1 ?_;try with_reducible exact tt
 refine AW.loopT (α:=Nat) 0 (fun i=>[(4,.d (nD (2^i))),(3,.d (.int .i64 (i:Nat)))]) (fun i=>[]) (fun i=>i≤bitsN a) (fun i=>bitsN a-i) 0 ?_ ?_ (Nat.zero_le _) ?_ ?_ ?_
 ·simp
 ·simp
 ·simp
 ·simp
 intro i hi
 simp
 have hs:=o_11z (n:=i) (m:=B) (by omega)
 have hc:=o_10a (2^i) a (by omega) (by omega)
 have hd:=o_109 (2^i) (2^i) (by omega) (by omega)
 rw [←Nat.two_mul,Nat.mul_comm,←Nat.pow_succ] at hd
 have xei:IntKind.i64.wrap ((i:Int)+1)=((i+1:Nat):Int):=by rw [w64 (by omega) (by omega)];omega
 by_cases hle:2^i≤a
 ·have hz:cmpZ (2^i) a≤0:=o_120 hle
  have hlt:i<bitsN a:=by
   rcases Nat.lt_or_ge i (bitsN a) with h | h
   ·exact h
   ·have h2:=o_q7 a
    have h3:=Nat.pow_le_pow_right (n:=2) (by decide) h
    omega
  obtain ⟨Y,hY⟩:∃Y,Y=2^(i+1):=⟨_,rfl⟩
  rw [←hY] at hd
  generalize 2^i=Y0 at *
  generalize cmpZ Y0 a=z at *
  refine A12 (fs hz xei) hc hd ?_;try with_reducible exact tt
  exact ⟨i+1,by omega,by omega,Sub1.int (by omega),Sub1.of (by rw [hY])⟩
 ·have hz:¬cmpZ (2^i) a≤0:=by unfold cmpZ;rw [if_neg (by omega),if_pos (by omega)];decide
  have hie:i=bitsN a:=by
   have:=o_q8 (n:=a) (k:=i) (by omega)
   omega
  generalize 2^i=Y0 at *
  generalize cmpZ Y0 a=z at *
  subst hie
  refine A11 hz hc ?_;try with_reducible exact tt

theorem o_123 (s t E:Nat) (hs:s≤5) (hE:E≤2000) (ht:t<2^E):Eqn Tryz.prog o_fq [.d (.int .i64 s),.d (nD t)] [] (.d (nD (moreY s t))) []:=by
 refine Eqn.pure o_fs Plain.ok ?_
 have h2:=o_106 2 (by decide)
 have h1:=o_106 1 (by decide)
 have hp:=o_121 2 s (by omega) (fun i hi=>Nat.le_trans (o_11z (m:=5) (by omega)) (by omega)) (Nat.le_trans (o_11z (n:=1) (m:=1) (Nat.le_refl _)) (by omega))
 obtain ⟨M,hM⟩:∃M,M=2000:=⟨_,rfl⟩
 have hN:t<10000^M:=Nat.lt_of_lt_of_le ht (Nat.le_trans (Nat.pow_le_pow_left (by decide:2≤10000) E) (Nat.pow_le_pow_right (by decide) (by omega)))
 have hst:=o_11y hN
 have hdv:=o_10k t (2^s) M (Nat.two_pow_pos s) (by omega) hN (Nat.lt_of_le_of_lt (Nat.pow_le_pow_left (by decide:2≤10000) s) (Nat.pow_lt_pow_right (by decide) (by omega)))
 have hq:t/2^s≤t:=Nat.div_le_self _ _
 have hsq:=o_11y (Nat.lt_of_le_of_lt hq hN)
 have hsq1:sizeD (t/2^s+1)≤M+1:=o_11y (Nat.lt_of_le_of_lt (Nat.succ_le_of_lt (Nat.lt_of_le_of_lt hq hN)) (Nat.pow_lt_pow_right (by decide) (by omega)))
 have ha1:=o_109 (t/2^s) 1 (by omega) (Nat.le_trans (o_11z (n:=0) (m:=1) (by omega)) (by omega))
 have ha2:=o_109 t (t/2^s+1) (by omega) (by omega)
 have ha3:=o_109 t (t/2^s) (by omega) (by omega)
 have hm:(t/2^s*2^s<t)↔t%2^s≠0:=by
  have:=Nat.div_add_mod t (2^s)
  rw [Nat.mul_comm] at this
  omega
 have hmr:moreY s t=t+(if t%2^s≠0 then t/2^s+1 else t/2^s):=by
  unfold moreY
  by_cases h:t%2^s≠0
  ·rw [if_pos h,if_pos (hm.2 h)]
  ·rw [if_neg h,if_neg (fun k=>h (hm.1 k))]
 refine cc (c':=?z219) ?_ ?_
 case refine_1=>cbv<;>exact rfl
 rw [hmr]
 clear hmr hm hN ht hst hsq hsq1
 by_cases h:t%2^s=0
 ·rw [if_neg (by simp [h])]
  rw [h] at hdv
  generalize 2^s=u at *
  generalize t/u=q at *
  have e:nD 0 = .sl 0 []:=rfl
  rw [e] at hdv
  refine A04 h2 hp hdv ha3 ?_;try with_reducible exact tt
 ·rw [if_pos h]
  generalize 2^s=u at *
  generalize t%u=m at *
  generalize t/u=q at *
  have hL:0<sizeD m:=by
   rcases Nat.eq_zero_or_pos (sizeD m) with h5 | h5
   ·exact absurd (o_wa.1 (List.eq_nil_of_length_eq_zero h5)) h
   ·exact h5
  obtain ⟨z,DS,hz⟩:∃z DS,nD m = .sl z DS∧0<z:=⟨_,_,rfl,hL⟩
  rw [hz.1] at hdv
  have hz2:=hz.2
  have hz3:(0:Int)<z:=by omega
  refine A13 (fs hz2 hz3) h2 hp hdv ?_;try with_reducible exact tt
  refine A03 h1 ha1 ha2 ?_;try with_reducible exact tt
end
section
open Go.RowKit
def plR (p:Pl):List V:=[.d (.int .i64 p.x),.d (.int .i64 p.shift),.d (.sl (sizeD p.value) (dsD (decs p.value))),.d (.sl (sizeD p.reply) (dsD (decs p.reply)))]
theorem o_124 {s k:Nat} (h1:1≤s) (h5:s≤5) (hk:k≤1023):(placeY s k).reply<2^1100∧(placeY s k).value<2^1100∧(placeY s k).shift≤1100∧(placeY s k).x≤1023:=by
 obtain ⟨a1,a2,a3,a4,a5⟩:=o_qc h1 k
 obtain ⟨E,hE⟩:∃E,E=1100:=⟨_,rfl⟩
 rw [←hE]
 have e4:(2:Nat)^(2*s+k)<2^E:=Nat.pow_lt_pow_right (by decide) (by omega)
 have e2:k*2^(2*s+k)<2^10*2^(2*s+k):=Nat.mul_lt_mul_of_pos_right (by omega) (Nat.two_pow_pos _)
 rw [←Nat.pow_add] at e2
 have e3:(2:Nat)^(10+(2*s+k))<2^E:=Nat.pow_lt_pow_right (by decide) (by omega)
 refine ⟨Nat.lt_of_le_of_lt a2 e4,Nat.lt_of_le_of_lt a4 (Nat.lt_trans e2 e3),by omega,by omega⟩
theorem o_125 {x n m:Nat} (h:x<2^n) (hm:n≤m):sizeD x≤m:=o_11y (Nat.lt_of_lt_of_le h (Nat.le_trans (Nat.pow_le_pow_left (by decide:2≤10000) n) (Nat.pow_le_pow_right (by decide) hm)))
set_option maxHeartbeats 4000000 in
theorem o_126 (s k:Nat) (s1:1≤s) (s5:s≤5) (hk:k≤1023):Eqn Tryz.prog o_c4 [.d (.int .i64 s),.d (.int .i64 k)] [] (.d (.agg [.int .i64 (placeY s k).x,.int .i64 (placeY s k).shift,nD (placeY s k).value,nD (placeY s k).reply])) []:=by
 refine Eqn.pure o_c6 Plain.ok ?_
 have h4:=o_106 4 (by decide)
 have h2:=o_106 2 (by decide)
 have hp4:=o_121 4 s (by omega) (fun i hi=>o_125 (n:=2*i+1) (by rw [show (4:Nat)=2^2 from rfl,←Nat.pow_mul];exact Nat.pow_lt_pow_right (by decide) (by omega)) (by omega)) (o_125 (n:=3) (by decide) (by omega))
 rw [show 4^s=2^(2*s) by rw [show (4:Nat)=2^2 from rfl,←Nat.pow_mul]] at hp4
 refine cc (c':=?z220) ?_ ?_
 case refine_1=>cbv<;>exact rfl
 simp only [nD] at h4 h2 hp4 ⊢
 refine A02 h4 hp4 ?_;try with_reducible exact tt
 refine AW.loopT (α:=Nat) 2 (fun i=>[(6,.d (.int .i64 (i:Nat)))]) (fun i=>[(1,⟨175,plR (placeY s i)⟩)]) (fun i=>i≤k) (fun i=>k-i) 0 ?_ ?_ (Nat.zero_le _) ?_ ?_ ?_
 ·simp
 ·simp
 ·simp
 ·simp [plR,placeY]
  exact Subs.cons (Sub1.refl _) (Subs.cons (Sub1.refl _) (Subs.cons Sub1.nil (Subs.refl _)))
 intro i hi
 obtain ⟨b1,b2,b3,b4⟩:=o_124 (k:=i) s1 s5 (by omega)
 simp only [plR]
 simp
 by_cases hin:i<k
 ·have hin':(i:Int)<k:=by omega
  have xei:IntKind.i64.wrap ((i:Int)+1)=((i+1:Nat):Int):=by rw [w64 (by omega) (by omega)];omega
  obtain ⟨c1,c2,c3,c4⟩:=o_124 (k:=i+1) s1 s5 (by omega)
  have hnx:placeY s (i+1)=nextY s (placeY s i):=rfl
  obtain ⟨q,hq⟩:∃q,q=placeY s (i+1):=⟨_,rfl⟩
  rw [←hq] at c1 c2 c3 c4 hnx
  have hqq:=hq
  generalize placeY s i=p at *
  obtain ⟨px,ps,pv,pr⟩:=p
  simp only at b1 b2 b3 b4
  have hp2:=o_121 2 ps (by omega) (fun i hi=>o_125 (n:=i+1) (Nat.pow_lt_pow_right (by decide) (by omega)) (by omega)) (o_125 (n:=3) (by decide) (by omega))
  have z1:=o_125 b1 (m:=2000) (by omega)
  have z2:=o_125 b2 (m:=2000) (by omega)
  have z3:=o_125 (x:=2^ps) (n:=ps+1) (m:=2000) (Nat.pow_lt_pow_right (by decide) (by omega)) (by omega)
  have had:=o_109 pv (2^ps) (by omega) (by omega)
  have hqv:q.value=pv+2^ps:=by rw [hnx,nextY];split<;>rfl
  rw [←hqv] at had
  have z4:=o_125 c2 (m:=2000) (by omega)
  have hcm:=o_10a q.value pr (by omega) (by omega)
  by_cases hge:pr≤q.value
  ·have hqe:q=⟨px+1,shiftY s (moreY s pr),q.value,moreY s pr⟩:=by
    have:nextY s ⟨px,ps,pv,pr⟩=⟨px+1,shiftY s (moreY s pr),pv+2^ps,moreY s pr⟩:=by
     rw [nextY,if_pos (by rw [hqv] at hge;exact hge)]
    rw [hnx,this]
   have hz:0≤cmpZ q.value pr:=by unfold cmpZ;rw [if_neg (by omega)];split<;>decide
   have hqr:q.reply=moreY s pr:=by rw [hqe]
   have hmr:=o_123 s pr 1100 s5 (by omega) b1
   have hbt:=o_122 (moreY s pr) 1100 (by rw [←hqr];exact c1) (by omega) (by rw [←hqr];exact o_125 c1 (by omega))
   have hsh:q.shift=shiftY s (moreY s pr):=by rw [hqe]
   have hqx:q.x=px+1:=by rw [hqe]
   unfold shiftY at hsh
   rw [←hqr] at hmr hbt hsh
   have hbl:=o_q8 c1
   clear hnx hqe hqr hp2
   have hp2:=o_121 2 ps (by omega) (fun i hi=>o_125 (n:=i+1) (Nat.pow_lt_pow_right (by decide) (by omega)) (by omega)) (o_125 (n:=3) (by decide) (by omega))
   generalize bitsN q.reply=B at *
   have xpx:IntKind.i64.wrap ((px:Int)+1)=(q.x:Nat):=by rw [w64 (by omega) (by omega)];omega
   have xb1:IntKind.i64.wrap ((B:Int)-1)=(B:Int)-1:=w64 (by omega) (by omega)
   have x2s:IntKind.i64.wrap (2*(s:Int))=2*(s:Int):=w64 (by omega) (by omega)
   have xb2:IntKind.i64.wrap ((B:Int)-1-2*(s:Int))=(B:Int)-1-2*(s:Int):=w64 (by omega) (by omega)
   simp only [nD] at had hcm hmr hbt hp2
   clear b1 b2 c1 c2 z1 z2 z3 z4 hqv
   generalize 2^ps=u at *
   generalize cmpZ q.value pr=z at *
   by_cases hneg:(B:Int)-1-2*(s:Int)<0
   ·have hq0:q.shift=0:=by omega
    refine A16 (fs hin (fs hin' (fs hz (fs xpx (fs xb1 (fs x2s (fs xb2 (fs hneg xei)))))))) h2 hp2 had hcm hmr hbt ?_;try with_reducible exact tt
    exact ⟨i+1,by omega,by omega,Sub1.int (by omega),by rw [←hqq,hq0];exact Subs.refl _⟩
   ·have hq0:(B:Int)-1-2*(s:Int)=(q.shift:Nat):=by omega
    replace xb2:=xb2.trans hq0
    rw [hq0] at hneg
    refine A16 (fs hin (fs hin' (fs hz (fs xpx (fs xb1 (fs x2s (fs xb2 (fs hneg xei)))))))) h2 hp2 had hcm hmr hbt ?_;try with_reducible exact tt
    exact ⟨i+1,by omega,by omega,Sub1.int (by omega),by rw [←hqq];exact Subs.refl _⟩
  ·have hqe:q=⟨px,ps,q.value,pr⟩:=by
    have:nextY s ⟨px,ps,pv,pr⟩=⟨px,ps,pv+2^ps,pr⟩:=by
     rw [nextY,if_neg (by rw [hqv] at hge;exact hge)]
    rw [hqv,hnx,this]
   have hz:¬0≤cmpZ q.value pr:=by unfold cmpZ;rw [if_pos (by omega)];decide
   have hqx:q.x=px:=by rw [hqe]
   have hqs:q.shift=ps:=by rw [hqe]
   have hqr:q.reply=pr:=by rw [hqe]
   simp only [nD] at had hcm hp2
   clear b1 b2 c1 c2 z1 z2 z3 z4 hqv hnx hqe
   generalize 2^ps=u at *
   generalize cmpZ q.value pr=z at *
   refine A14 (fs hin (fs hin' (fs hz xei))) h2 hp2 had hcm ?_;try with_reducible exact tt
   exact ⟨i+1,by omega,by omega,Sub1.int (by omega),by rw [←hqq,hqx,hqs,hqr];exact Subs.refl _⟩
 ·have:i=k:=by omega
  subst this
  refine A00 ?_;try with_reducible exact tt
end
section
open Go.RowKit
def SmallR (k a b:Nat):Prop:=k=4∧1≤a∧a≤8∧b≤3∨k≠4∧GoodS k a b
end
section
open Go.RowKit
end
section
open Go.RowKit
end
section
open Go.RowKit

theorem o_127 {P:Program} {f:FuncId} {c:C} {rs:List RV} {nt:Nat} (hf:fnOf P f=some (c,rs,nt,false)) (vs:Array Value) (w:World):(callFunc f vs).run P w = .ok (.enter f vs) w:=by
 unfold fnOf at hf
 split at hf
 ·rename_i fn hfn
  split at hf
  ·rename_i b hb
   simp only [Option.some.injEq,Prod.mk.injEq] at hf
   obtain ⟨h1,h2,h3,h4⟩:=hf
   have h1 : ¬ fn.name = "runtime.NumGoroutine" := by simpa using h4
   simp [callFunc,hfn,h1,hb]
  ·cases hf
 ·cases hf

abbrev memW (W:World):Mem:=⟨fun _=>none,fun b=>b<W.heap.size,W⟩

theorem o_128 {P:Program} {f:FuncId} {args:List V} {c:C} {rs:List RV} {nt:Nat} (hf:fnOf P f=some (c,rs,nt,false)) (E:Eqn P f args [] (.d (.bool true)) []) {W:World} {vs:List Value} (h:V.reps (memW W) args vs) (ht:Tabs (memW W)) :
  Calls P f vs.toArray W (fun e W'=>e = .returned (.bool true)∧Same W W'):=by
 rcases E.run (memW W) vs ⟨fun b h=>h,fun n b h=>(by cases h),ht⟩ h (by simp) (fun n i b h=>by simp at h) (fun _ _=>rfl) with ⟨v,h1,_⟩ | ⟨_,h2⟩
 ·rw [o_127 hf] at h1;cases h1
 ·refine h2.mono ?_
  rintro e w' ⟨v,m',rfl,rfl,hE⟩
  have hv:=hE.rep
  rw [V.rep_d] at hv
  unfold D.rep at hv
  subst hv
  exact ⟨rfl,hE.le.os,hE.le.tape,hE.le.output,hE.le.size,fun k hk _=>hE.le.imm k hk⟩

theorem reps_of {I:Nat→Prop} {w:World} {α:Type} (f:α→D) (g:α→Value) (h:∀a,D.rep I w (f a) (g a)):∀l:List α,D.reps I w (l.map f) (l.map g)
 | []=>by simp
 | a::l=>by
  rw [List.map_cons,List.map_cons,D.reps_cons]
  exact ⟨h a,reps_of f g h l⟩

theorem o_129 {W:World} {l:List D} {vs:List Value} (h1:∀u∈vs,u.oneCell'=true) (h:D.reps (fun b=>b<W.heap.size) W l vs):V.rep (memW W) (.d (.agg l)) (.agg vs.toArray):=by
 rw [V.rep_d]
 unfold D.rep
 exact ⟨vs,rfl,h1,h⟩
end
section
open Go.RowKit
end
section
open Go.RowKit
theorem AW.meet {P:Program} {L:Nat} {Q Q2:Exit→List V→List (Option Ob)→Prop} {T:List V} {H:List (Option Ob)} {x y:C} (T1:List V) (H1:List (Option Ob)) (hL:L≤H1.length)
  (h1:AW P L x (thenQ (fun T' H'=>wk H1.length T' T1∧wkH H1.length H' H1) Q) T H) (h2:AW P L y Q2 T1 H1):AW P L x (thenQ (AW P L y Q2) Q) T H:=by
 intro code hc m0 m a sat hle htop hL'
 refine wp_mono (h1 code hc m0 m a sat hle htop hL') ?_
 rintro e a' w' ⟨T',H',m',rfl,hq,rest⟩
 refine ⟨T',H',m',rfl,?_,rest⟩
 cases e with
 | normal =>
  obtain ⟨w1,w2⟩:=hq
  exact AW.weak (Weak.of w1 w2) hL h2
 | _=>exact hq
end
section
open Go.RowKit
def more (S:Nat→Bool) (i:Nat):Nat→Bool:=fun j=>S j || j==i
section
variable {P:Program} {ops:Array Oper} {Q:Exit→Act→World→Prop} {FT:(Nat→Bool)→List V} {FH:(Nat→Bool)→List (Option Ob)} {good:(Nat→Bool)→Prop} {N:Nat}

end
end
section
open Go.RowKit
def valF (d k:Nat):Nat:=(2^d+k%2^d)*2^(k/2^d)-2^d
def valC (k a y:Nat):Rat:=if k=1 then valM a y else if k=2 then ((valF a y:Nat):Rat) else (((placeY a y).value:Nat):Rat)
end
section
open Go.RowKit
def valR (k a b y t:Nat):Rat:=if k=4 then ((y*2^t:Nat):Rat) else valC k a y
end
section
open Go.RowKit
theorem o_12a {W:World} {g0:Nat} {zs:List Int} (ht:∀g l,tab g=some l→g=g0∧l=zs.map fun z:Int=>D.int .u64 z) (hlt:g0<W.heap.size) (hc:∀(i:Nat) u,(zs.map (Value.int .u64))[i]?=some u→W.cell? ⟨g0,i,none⟩=some u):Tabs (memW W):=by
 intro g l hg
 obtain ⟨rfl,rfl⟩:=ht g l hg
 unfold D.rep
 refine ⟨g,0,rfl,hlt,zs.map (Value.int .u64),fun u hu=>?_,reps_of (fun z:Int=>D.int .u64 z) (Value.int .u64) (fun _=>by unfold D.rep;rfl) zs,fun i u hu=>?_⟩
 ·obtain ⟨z,-,rfl⟩:=List.mem_map.1 hu
  rfl
 ·rw [Nat.zero_add];exact hc i u hu
end
section
open Go.RowKit

theorem tabsIn {W:World} {g0:Nat} {zs:List Int} (ht:∀g l,tab g=some l→g=g0∧l=zs.map fun z:Int=>D.int .u64 z) (hlt:g0<W.heap.size) (hc:∀(i:Nat) u,(zs.map (Value.int .u64))[i]?=some u→W.cell? ⟨g0,i,none⟩=some u):Tabs (memW W):=o_12a ht hlt hc
theorem tabAll:∀g l,tab g=some l→g=2∧l=([1,10,100,1000,10000,100000,1000000,10000000,100000000,1000000000,10000000000,100000000000,1000000000000,10000000000000,100000000000000,1000000000000000,10000000000000000,100000000000000000,1000000000000000000,10000000000000000000]:List Int).map fun z:Int=>D.int .u64 z:=by
 intro g l h
 unfold tab at h
 split at h
 ·cases h
  exact ⟨‹_›,rfl⟩
 ·cases h
end
section
open Go.RowKit
@[simp] theorem o_12b (l:List D):V.toDs (l.map .d)=some l:=by induction l<;>simp_all [V.toDs]
abbrev St:=Nat×Nat×Bool
def stD (s:St):List D:=[.int .i64 s.1,.int .i64 s.2.1,.bool s.2.2]
@[simp] theorem o_12c (s:St):(stD s).length=3:=rfl
theorem o_12d (s t:St):eqKs [0,0,1] (stD s) (stD t)=some (decide (s=t)):=by
 obtain ⟨a,b,c⟩:=s
 obtain ⟨a',b',c'⟩:=t
 unfold stD eqKs
 simp only [eqK,if_true,eqKs]
 simp only [Option.some.injEq,Bool.and_true]
 rw [Bool.eq_iff_iff]
 simp only [Bool.and_eq_true,beq_iff_eq,decide_eq_true_eq,Prod.mk.injEq]
 constructor
 ·rintro ⟨h1,h2,h3⟩;exact ⟨by omega,by omega,h3⟩
 ·rintro ⟨h1,h2,h3⟩;exact ⟨by omega,by omega,h3⟩

abbrev Sp:=List (St×Rat)
section
variable (rc:Rat→List D) (hrc:∀q,(rc q).length=3)
def spD (l:Sp):List D:=l.flatMap fun p=>stD p.1++rc p.2
theorem o_12e (rc:Rat→List D) (hrc:∀q,(rc q).length=3) (l:Sp):(spD rc l).length=l.length*6:=by
 induction l with
 | nil=>rfl
 | cons p l ih=>rw [spD,List.flatMap_cons,List.length_append,←spD,ih];simp [hrc];omega
def idxQ (s:St):Sp→Option Nat
 | []=>none
 | p::l=>if s=p.1 then some 0 else (idxQ s l).map (·+1)
theorem o_12f (rc:Rat→List D) (hrc:∀q,(rc q).length=3) (s:St):∀l:Sp,mfind [0,0,1] 3 (stD s) l.length (spD rc l)=some (idxQ s l)
 | []=>rfl
 | p::l=>by
  have e1:(spD rc (p::l)).take 3=stD p.1:=by
   rw [spD,List.flatMap_cons,List.append_assoc,List.take_append_of_le_length (by simp),List.take_of_length_le (by simp)]
  have e2:(spD rc (p::l)).drop 6=spD rc l:=by
   rw [spD,List.flatMap_cons,List.drop_append,List.drop_eq_nil_of_le (by simp [hrc]),List.nil_append]
   simp [hrc,spD]
  simp only [List.length_cons,mfind,List.length_nil]
  rw [e1,o_12d,e2]
  by_cases h:s=p.1
  ·simp [h,idxQ]
  ·simp only [h,decide_false]
   rw [o_12f rc hrc s l]
   simp [idxQ,h]
def getQ (l:Sp) (s:St):Rat:=match l with
 | []=>0
 | p::r=>if s=p.1 then p.2 else getQ r s
def setQ (l:Sp) (s:St) (q:Rat):Sp:=match l with
 | []=>[(s,q)]
 | p::r=>if s=p.1 then (s,q)::r else p::setQ r s q
theorem o_12g (s t:St) (q:Rat):∀l:Sp,getQ (setQ l s q) t=if t=s then q else getQ l t
 | []=>by simp [setQ,getQ]
 | p::r=>by
  unfold setQ
  split
  ·rename_i e
   unfold getQ
   by_cases h:t=s
   ·simp [h]
   ·simp [h,show ¬t=p.1 from fun h'=>h (h'.trans e.symm)]
  ·rename_i e
   unfold getQ
   rw [o_12g s t q r]
   by_cases h:t=s
   ·subst h;simp [e]
   ·simp [h]
theorem o_12h (s:St) (q:Rat):∀l:Sp,(setQ l s q).map (·.1)=if s∈l.map (·.1) then l.map (·.1) else l.map (·.1)++[s]
 | []=>by simp [setQ]
 | p::r=>by
  unfold setQ
  split
  ·rename_i e;simp [e]
  ·rename_i e
   simp only [List.map_cons,o_12h s q r,List.mem_cons]
   by_cases h:s∈r.map (·.1)
   ·simp [h]
   ·simp [h,e]
theorem o_12i {s:St} {q:Rat} {l:Sp} (h:(l.map (·.1)).Nodup):((setQ l s q).map (·.1)).Nodup:=by
 rw [o_12h]
 split
 ·exact h
 ·rename_i hs
  rw [List.nodup_append]
  refine ⟨h,by simp,fun a ha b hb=>?_⟩
  simp at hb;subst hb
  exact fun e=>hs (e▸ha)
def lookD (z:List D) (s:St):Sp→D
 | []=>.agg z
 | p::r=>if s=p.1 then .agg (rc p.2) else lookD z s r
theorem o_12j (rc:Rat→List D) (hrc:∀q,(rc q).length=3) (s:St) (l:Sp) (z:List D):mlook [0,0,1] 3 true z (stD s) (spD rc l)=some (lookD rc z s l):=by
 unfold mlook
 have hn:(spD rc l).length/([0,0,1].length+3)=l.length:=by rw [o_12e rc hrc];simp
 rw [hn,o_12f rc hrc]
 simp only [Option.map_some,Option.some.injEq]
 have key:∀l:Sp,(match idxQ s l with
   | some i=>glD true (((spD rc l).drop (i*([0,0,1].length+3)+[0,0,1].length)).take 3)
   | none=>glD true z)=lookD rc z s l:=by
  intro l
  induction l with
  | nil=>simp [idxQ,glD,lookD]
  | cons p l ih =>
   by_cases h:s=p.1
   ·have e1:((spD rc (p::l)).drop 3).take 3=rc p.2:=by
     rw [spD,List.flatMap_cons,List.append_assoc,List.drop_append,List.drop_eq_nil_of_le (by simp),List.nil_append]
     simp [hrc]
    simp [idxQ,h,lookD,glD,e1]
   ·have e2:(spD rc (p::l)).drop 6=spD rc l:=by
     rw [spD,List.flatMap_cons,List.drop_append,List.drop_eq_nil_of_le (by simp [hrc]),List.nil_append]
     simp [hrc,spD]
    rw [lookD,if_neg h,←ih]
    simp only [idxQ,if_neg h]
    cases hi:idxQ s l with
    | none=>rfl
    | some i =>
     simp only [Option.map_some]
     have:(i+1)*([0,0,1].length+3)+[0,0,1].length=6+(i*([0,0,1].length+3)+[0,0,1].length):=by simp;omega
     rw [this,←List.drop_drop,e2]
 exact key l
theorem o_12k (rc:Rat→List D) (hrc:∀q,(rc q).length=3) (s:St) (l:Sp) (q:Rat):mset [0,0,1] 3 (stD s) (rc q) (spD rc l)=some (spD rc (setQ l s q)):=by
 unfold mset
 have hn:(spD rc l).length/([0,0,1].length+3)=l.length:=by rw [o_12e rc hrc];simp
 rw [hn,o_12f rc hrc]
 simp only [Option.map_some,Option.some.injEq]
 have key:∀l:Sp,(match idxQ s l with
   | some i=>(spD rc l).take (i*([0,0,1].length+3))++(stD s++rc q)++(spD rc l).drop ((i+1)*([0,0,1].length+3))
   | none=>spD rc l++(stD s++rc q))=spD rc (setQ l s q):=by
  intro l
  induction l with
  | nil=>simp [idxQ,setQ,spD]
  | cons p l ih =>
   have e2:(spD rc (p::l)).drop 6=spD rc l:=by
    rw [spD,List.flatMap_cons,List.drop_append,List.drop_eq_nil_of_le (by simp [hrc]),List.nil_append]
    simp [hrc,spD]
   have e3:spD rc (p::l)=(stD p.1++rc p.2)++spD rc l:=by rw [spD,List.flatMap_cons];rfl
   by_cases h:s=p.1
   ·simp only [idxQ,if_pos h,setQ]
    simp only [Nat.zero_mul,List.take_zero,Nat.zero_add,Nat.one_mul,List.nil_append]
    rw [show [0,0,1].length+3=6 from rfl,e2]
    rw [show spD rc ((s,q)::l)=(stD s++rc q)++spD rc l by rw [spD,List.flatMap_cons];rfl]
   ·simp only [idxQ,if_neg h,setQ]
    rw [show spD rc (p::setQ l s q)=(stD p.1++rc p.2)++spD rc (setQ l s q) by rw [spD,List.flatMap_cons];rfl,←ih]
    have hl6:(stD p.1++rc p.2).length=6:=by simp [hrc]
    cases hi:idxQ s l with
    | none=>simp only [Option.map_none];rw [e3];simp
    | some i =>
     simp only [Option.map_some]
     rw [show [0,0,1].length+3=6 from rfl]
     have t1:(spD rc (p::l)).take ((i+1)*6)=(stD p.1++rc p.2)++(spD rc l).take (i*6):=by
      rw [e3,List.take_append,List.take_of_length_le (by omega),hl6,show (i+1)*6-6=i*6 by omega]
     have t2:(spD rc (p::l)).drop ((i+1+1)*6)=(spD rc l).drop ((i+1)*6):=by
      rw [show (i+1+1)*6=6+(i+1)*6 by omega,←List.drop_drop,e2]
     rw [t1,t2]
     simp
 exact key l
end
end
section
open Go.RowKit
def addQ (l:Sp) (s:St) (x:Rat):Sp:=setQ l s (getQ l s+x)
def exQ (g:St→Rat):Sp→Rat
 | []=>0
 | p::l=>p.2*g p.1+exQ g l
def Uq (l:Sp):Prop:=(l.map (·.1)).Nodup
theorem o_12l (g:St→Rat) (s:St) (q:Rat):∀l:Sp,Uq l→exQ g (setQ l s q)=exQ g l-getQ l s*g s+q*g s
 | [],_=>by simp only [setQ,exQ,getQ];grind
 | p::r,h=>by
  have h':Uq r:=by unfold Uq at h ⊢;simp at h;exact h.2
  unfold setQ getQ
  split
  ·rename_i e
   simp only [exQ]
   rw [e];grind
  ·simp only [exQ]
   rw [o_12l g s q r h'];grind
theorem o_12m {s:St} {q:Rat} {l:Sp} (h:Uq l):Uq (addQ l s q):=o_12i h
theorem o_12n (g:St→Rat) (s:St) (q:Rat) (l:Sp) (h:Uq l):exQ g (addQ l s q)=exQ g l+q*g s:=by
 unfold addQ;rw [o_12l g s _ l h];grind
theorem o_12o (g:St→Rat) {l k:Sp} (h:l.Perm k):exQ g l=exQ g k:=by
 induction h with
 | nil=>rfl
 | cons x _ ih=>simp only [exQ,ih]
 | swap x y l=>simp only [exQ];grind
 | trans _ _ h1 h2=>rw [h1,h2]
theorem o_12p (g:St→Rat) (l k:Sp):exQ g (l++k)=exQ g l+exQ g k:=by
 induction l with
 | nil=>simp only [List.nil_append,exQ];grind
 | cons p l ih=>simp only [List.cons_append,exQ,ih];grind
theorem ex_nz (g:St→Rat) (l:Sp):exQ g (l.filter fun p=>decide (p.2≠0))=exQ g l:=by
 induction l with
 | nil=>rfl
 | cons p l ih =>
  rw [List.filter_cons]
  split
  ·simp only [exQ,ih]
  ·rename_i h
   have:p.2=0:=by simpa using h
   simp only [exQ,ih,this];grind
def ltS (s t:St):Bool:=decide (s.1<t.1) || (decide (s.1=t.1)&&(decide (s.2.1<t.2.1) || (decide (s.2.1=t.2.1)&&(!s.2.2&&t.2.2))))
theorem o_12q (s:St):ltS s s=false:=by unfold ltS;simp
theorem o_12r {s t u:St} (h1:ltS s t=true) (h2:ltS t u=true):ltS s u=true:=by
 obtain ⟨a,b,c⟩:=s;obtain ⟨a',b',c'⟩:=t;obtain ⟨a2,b2,c2⟩:=u
 unfold ltS at *
 simp only [Bool.or_eq_true,Bool.and_eq_true,decide_eq_true_eq,Bool.not_eq_true'] at *
 rcases h1 with h1 | ⟨h1,h1' | ⟨h1',h3,h4⟩⟩<;>rcases h2 with h2 | ⟨h2,h2' | ⟨h2',h5,h6⟩⟩<;>first | (left;omega) | (right;refine ⟨by omega,?_⟩;first | (left;omega) | (right;exact ⟨by omega,by assumption,by assumption⟩))
theorem o_12s (s t:St):ltS s t=true∨s=t∨ltS t s=true:=by
 obtain ⟨a,b,c⟩:=s;obtain ⟨a',b',c'⟩:=t
 unfold ltS
 simp only [Bool.or_eq_true,Bool.and_eq_true,decide_eq_true_eq,Bool.not_eq_true',Prod.mk.injEq]
 rcases Nat.lt_trichotomy a a' with h | h | h
 ·left;left;exact h
 ·rcases Nat.lt_trichotomy b b' with h2 | h2 | h2
  ·left;right;exact ⟨h,.inl h2⟩
  ·cases c<;>cases c'<;>simp [h,h2]
  ·right;right;right;exact ⟨h.symm,.inl h2⟩
 ·right;right;left;exact h
def leP (p q:St×Rat):Bool:=!(ltS q.1 p.1)
theorem o_12t (a b c:St×Rat) (h1:leP a b=true) (h2:leP b c=true):leP a c=true:=by
 unfold leP at *
 simp only [Bool.not_eq_true'] at *
 cases h:ltS c.1 a.1 with
 | false=>rfl
 | true =>
  rcases o_12s b.1 c.1 with h3 | h3 | h3
  ·rw [o_12r h3 h] at h1;cases h1
  ·rw [h3,h] at h1;cases h1
  ·rw [h3] at h2;cases h2
theorem o_12u (a b:St×Rat):leP a b || leP b a:=by
 unfold leP
 rcases o_12s a.1 b.1 with h | h | h
 ·have:ltS b.1 a.1=false:=by
   cases h2:ltS b.1 a.1 with
   | false=>rfl
   | true=>have:=o_12r h h2;rw [o_12q] at this;cases this
  simp [this]
 ·simp [h,o_12q]
 ·have:ltS a.1 b.1=false:=by
   cases h2:ltS a.1 b.1 with
   | false=>rfl
   | true=>have:=o_12r h h2;rw [o_12q] at this;cases this
  simp [this]
def nzQ (l:Sp):Sp:=l.filter fun p=>decide (p.2≠0)
def atQ (l:Sp):Sp:=(nzQ l).mergeSort leP
theorem o_12v (l:Sp):(atQ l).Perm (nzQ l):=List.mergeSort_perm _ _
theorem ex_at (g:St→Rat) (l:Sp):exQ g (atQ l)=exQ g l:=by rw [o_12o g (o_12v l)];exact ex_nz g l
theorem uq_nz {l:Sp} (h:Uq l):Uq (nzQ l):=by
 unfold Uq nzQ at *
 exact List.Sublist.nodup ((List.filter_sublist (l:=l)).map _) h
theorem uq_at {l:Sp} (h:Uq l):Uq (atQ l):=by
 unfold Uq
 exact ((o_12v l).map _).nodup_iff.2 (uq_nz h)
theorem o_12w {a b:St×Rat}:∀{l:Sp},Uq l→a∈l→b∈l→a.1=b.1→a=b
 | [],_,h,_,_=>by cases h
 | p::l,hu,ha,hb,e=>by
  unfold Uq at hu
  rw [List.map_cons,List.nodup_cons] at hu
  rcases List.mem_cons.1 ha with h1 | h1<;>rcases List.mem_cons.1 hb with h2 | h2
  ·rw [h1,h2]
  ·exact absurd (show p.1∈l.map (·.1) from List.mem_map.2 ⟨b,h2,by rw [←e,h1]⟩) hu.1
  ·exact absurd (show p.1∈l.map (·.1) from List.mem_map.2 ⟨a,h1,by rw [e,h2]⟩) hu.1
  ·exact o_12w hu.2 h1 h2 e
theorem o_12x {l k:Sp} (hu:Uq l) (hp:k.Perm (nzQ l)) (hs:k.Pairwise fun a b=>ltS a.1 b.1=true):k=atQ l:=by
 have h2:(atQ l).Pairwise fun a b=>leP a b=true:=List.pairwise_mergeSort o_12t o_12u _
 refine List.Perm.eq_of_pairwise (le:=fun a b=>leP a b=true) ?_ (hs.imp ?_) h2 (hp.trans (o_12v l).symm)
 ·intro a b ha hb h3 h4
  have ha':a∈nzQ l:=hp.mem_iff.1 ha
  have hb':b∈nzQ l:=(o_12v l).mem_iff.1 hb
  have:a.1=b.1:=by
   unfold leP at h3 h4
   rcases o_12s a.1 b.1 with h | h | h
   ·rw [h] at h4;simp at h4
   ·exact h
   ·rw [h] at h3;simp at h3
  exact o_12w (uq_nz hu) ha' hb' this
 ·intro a b h
  unfold leP
  cases h2:ltS b.1 a.1 with
  | false=>rfl
  | true=>have:=o_12r h h2;rw [o_12q] at this;cases this
def innQ (q:Rat) (out l:Sp):Sp:=l.foldl (fun o b=>addQ o b.1 (q*b.2)) out
def timesQ (next:St→Sp) (l:Sp):Sp:=(atQ l).foldl (fun out a=>innQ a.2 out (atQ (next a.1))) []
def eitQ (x:Rat) (s o:St):Sp:=addQ (addQ [] s x) o (1-x)
def stepQ (top:Nat) (c:Nat→Rat) (s:St):Sp:=if s.1=top then [((s.1,s.2.1,true),1)] else eitQ (c s.1) (s.1+1,s.2) s
def ofQ (next:St→Sp) (s:St):Nat→Sp
 | 0=>[(s,1)]
 | n+1=>timesQ next (ofQ next s n)
theorem o_12y (g:St→Rat) (q:Rat):∀(l out:Sp),Uq out→Uq (innQ q out l)∧exQ g (innQ q out l)=exQ g out+q*exQ g l
 | [],out,h=>⟨h,by simp only [innQ,List.foldl_nil,exQ];grind⟩
 | b::l,out,h=>by
  obtain ⟨h1,h2⟩:=o_12y g q l (addQ out b.1 (q*b.2)) (o_12m h)
  refine ⟨h1,?_⟩
  show exQ g (innQ q (addQ out b.1 (q*b.2)) l)=_
  rw [h2,o_12n g _ _ _ h]
  simp only [exQ];grind
theorem o_12z (g:St→Rat) (next:St→Sp):∀(l out:Sp),Uq out→Uq (l.foldl (fun out a=>innQ a.2 out (atQ (next a.1))) out)∧exQ g (l.foldl (fun out a=>innQ a.2 out (atQ (next a.1))) out)=exQ g out+exQ (fun s=>exQ g (next s)) l
 | [],out,h=>⟨h,by simp only [List.foldl_nil,exQ];grind⟩
 | a::l,out,h=>by
  obtain ⟨h0,h3⟩:=o_12y g a.2 (atQ (next a.1)) out h
  obtain ⟨h1,h2⟩:=o_12z g next l (innQ a.2 out (atQ (next a.1))) h0
  refine ⟨h1,?_⟩
  show exQ g (l.foldl (fun out a=>innQ a.2 out (atQ (next a.1))) (innQ a.2 out (atQ (next a.1))))=_
  rw [h2,h3,ex_at]
  simp only [exQ];grind
theorem o_130 (next:St→Sp) (l:Sp):Uq (timesQ next l):=(o_12z (fun _=>0) next (atQ l) [] (by simp [Uq])).1
theorem o_131 (g:St→Rat) (next:St→Sp) (l:Sp):exQ g (timesQ next l)=exQ (fun s=>exQ g (next s)) l:=by
 have h:=(o_12z g next (atQ l) [] (by simp [Uq])).2
 rw [ex_at] at h
 have e:exQ g []=0:=rfl
 rw [e] at h
 unfold timesQ
 rw [h];grind
theorem of_uq (next:St→Sp) (s:St):∀n,Uq (ofQ next s n)
 | 0=>by simp [ofQ,Uq]
 | n+1=>o_130 _ _
theorem o_132 (g:St→Rat) (x:Rat) (s o:St):Uq (eitQ x s o)∧exQ g (eitQ x s o)=x*g s+(1-x)*g o:=by
 have h0:Uq ([]:Sp):=by simp [Uq]
 refine ⟨o_12m (o_12m h0),?_⟩
 unfold eitQ
 rw [o_12n g _ _ _ (o_12m h0),o_12n g _ _ _ h0]
 simp only [exQ];grind
theorem o_133 (g:St→Rat) (top:Nat) (c:Nat→Rat) (s:St):Uq (stepQ top c s)∧exQ g (stepQ top c s)=if s.1=top then g (s.1,s.2.1,true) else c s.1*g (s.1+1,s.2)+(1-c s.1)*g s:=by
 unfold stepQ
 split
 ·refine ⟨by simp [Uq],?_⟩
  simp only [exQ];grind
 ·exact o_132 g _ _ _
def okQ (top:Nat) (s:St):Prop:=s.1≤top∧s.2.1=0∧(s.2.2=true→s.1=top)
def oklQ (top:Nat) (l:Sp):Prop:=∀p∈l,okQ top p.1∧0≤p.2
theorem o_134 {l:Sp} {s:St} {q:Rat} {p:St×Rat} (h:p∈setQ l s q):p∈l∨p=(s,q):=by
 induction l with
 | nil=>simp [setQ] at h;exact .inr h
 | cons r l ih =>
  unfold setQ at h
  split at h
  ·rcases List.mem_cons.1 h with h | h
   ·exact .inr h
   ·exact .inl (by simp [h])
  ·rcases List.mem_cons.1 h with h | h
   ·exact .inl (by simp [h])
   ·exact (ih h).imp (fun h=>by simp [h]) id
theorem o_135 {top:Nat} {l:Sp} (h:oklQ top l) (s:St):0≤getQ l s:=by
 induction l with
 | nil=>exact Rat.le_refl
 | cons p l ih =>
  unfold getQ
  split
  ·exact (h p (by simp)).2
  ·exact ih fun q hq=>h q (by simp [hq])
theorem o_136 {top:Nat} {l:Sp} (h:oklQ top l) {s:St} {q:Rat} (hs:okQ top s) (hq:0≤q):oklQ top (addQ l s q):=by
 intro p hp
 rcases o_134 hp with hp | rfl
 ·exact h p hp
 ·refine ⟨hs,?_⟩
  have:=o_135 h s
  show 0≤getQ l s+q
  grind
theorem ok_at {top:Nat} {l:Sp} (h:oklQ top l):oklQ top (atQ l):=fun p hp=>h p (List.mem_filter.1 ((o_12v l).mem_iff.1 hp)).1
theorem o_137 {top:Nat} {q:Rat} (hq:0≤q):∀{l out:Sp},oklQ top out→oklQ top l→oklQ top (innQ q out l)
 | [],out,h,_=>h
 | b::l,out,h,hl=>by
  obtain ⟨h1,h2⟩:=hl b (by simp)
  exact o_137 (out:=addQ out b.1 (q*b.2)) (l:=l) hq (o_136 h h1 (Rat.mul_nonneg hq h2)) fun p hp=>hl p (by simp [hp])
theorem o_138 {top:Nat} {next:St→Sp} (hn:∀s,okQ top s→oklQ top (next s)) {l:Sp} (h:oklQ top l):oklQ top (timesQ next l):=by
 have key:∀(k out:Sp),oklQ top out→oklQ top k→oklQ top (k.foldl (fun out a=>innQ a.2 out (atQ (next a.1))) out):=by
  intro k
  induction k with
  | nil=>intro out h _;exact h
  | cons a k ih =>
   intro out ho hk
   obtain ⟨h1,h2⟩:=hk a (by simp)
   exact ih _ (o_137 h2 ho (ok_at (hn _ h1))) fun p hp=>hk p (by simp [hp])
 exact key _ _ (fun p hp=>by cases hp) (ok_at h)
theorem o_139 {top:Nat} {c:Nat→Rat} (h0:∀k,k<top→0≤c k) (h1:∀k,k<top→c k≤1) {s:St} (hs:okQ top s):oklQ top (stepQ top c s):=by
 obtain ⟨a,b,f⟩:=s
 obtain ⟨s1,s2,s3⟩:=hs
 simp only at s1 s2 s3
 unfold stepQ
 split
 ·rename_i e
  intro p hp
  simp at hp;subst hp
  refine ⟨⟨s1,s2,fun _=>e⟩,?_⟩
  exact (by decide:(0:Rat)≤1)
 ·rename_i e
  have hlt:a<top:=by simp only at e;omega
  have e0:=h0 a hlt
  have e1:=h1 a hlt
  have hf:f=false:=by
   cases f with
   | false=>rfl
   | true=>exact absurd (s3 rfl) (by omega)
  subst hf
  refine o_136 (o_136 (fun p hp=>by cases hp) ⟨by simp only;omega,s2,fun h=>by simp at h⟩ e0) ⟨s1,s2,s3⟩ ?_
  show (0:Rat)≤1-c a
  grind
theorem ok_of {top:Nat} {c:Nat→Rat} (h0:∀k,k<top→0≤c k) (h1:∀k,k<top→c k≤1) {s:St} (hs:okQ top s):∀n,oklQ top (ofQ (stepQ top c) s n)
 | 0=>fun p hp=>by
  simp [ofQ] at hp;subst hp
  exact ⟨hs,(by decide:(0:Rat)≤1)⟩
 | n+1=>o_138 (fun s hs=>o_139 h0 h1 hs) (ok_of h0 h1 hs n)
theorem o_13a {top:Nat} {c:Nat→Rat} (s:St):∀n,exQ (fun _=>1) (ofQ (stepQ top c) s n)=1
 | 0=>by simp only [ofQ,exQ];grind
 | n+1=>by
  show exQ (fun _=>1) (timesQ (stepQ top c) (ofQ (stepQ top c) s n))=1
  rw [o_131]
  have:(fun t=>exQ (fun _=>(1:Rat)) (stepQ top c t))=fun _=>1:=by
   funext t
   rw [(o_133 (fun _=>1) top c t).2]
   split
   ·rfl
   ·grind
  rw [this,o_13a s n]
end
section
open Go.RowKit
@[simp] theorem o_13b (θ:Nat→Nat) (l:List D):V.rens θ (l.map V.d)=l.map V.d:=o_61 θ l
@[simp] theorem o_13c (n:Nat) (l:List D):V.lowl n (l.map V.d)=true:=o_62 n l
def rcD (q:Rat):List D:=[natW q.num.natAbs,.bool (decide (q.num<0)),natW (q.den-1)]
theorem rD_rc (q:Rat):rD q = .agg (rcD q):=rfl
def zR:List D:=[.nilsl,.bool false,.nilsl]
theorem Sub1.agg2 {l r:List D} (h:Subs (l.map V.d) (r.map V.d)):Sub1 (.d (.agg l)) (.d (.agg r)):=fun m v k=>by
 rw [V.rep_d] at k ⊢
 unfold D.rep at k ⊢
 obtain ⟨vs,h1,h2,h3⟩:=k
 exact ⟨vs,h1,h2,V.reps_map_d.1 (h m vs (V.reps_map_d.2 h3))⟩
theorem o_13d:Sub1 (.d (.agg zR)) (.d (rD 0)):=Sub1.agg2 (Subs.cons Sub1.nil (Subs.cons (Sub1.refl _) (Subs.cons Sub1.nil (Subs.refl _))))
theorem o_13e (s:St):∀l:Sp,Sub1 (.d (lookD rcD zR s l)) (.d (rD (getQ l s)))
 | []=>o_13d
 | p::r=>by
  unfold lookD getQ
  split
  ·exact Sub1.refl _
  ·exact o_13e s r
def spO (l:Sp):Ob:=⟨1000391,(spD rcD l).map .d⟩
theorem o_13f (l:Sp) (s:St) (x:Rat) (h1:RS (getQ l s) 100000) (h2:RS x 100000):Eqn Tryz.prog o_ay [.mp 0,.d (.agg (stD s)),.d (rD x)] [spO l] (.tup []) [spO (addQ l s x)]:=by
 refine Eqn.gen [0] o_b0 (by simp) (by simp) (by rfl) (by decide) (by simp) (by simp [spO,o_62]) ?_
 have ha:Eqn Tryz.prog o_aa [.d (lookD rcD zR s l),.d (rD x)] [] (.d (rD (getQ l s+x))) []:=(o_um _ _ h1 h2).sub (Subs.cons (o_13e s l) (Subs.refl _))
 have hl:=o_12j rcD (fun _=>rfl) s l zR
 have hm:=o_12k rcD (fun _=>rfl) s l (getQ l s+x)
 have hn:=o_12e rcD (fun _=>rfl) l
 refine cc (c':=?z229) ?_ ?_
 case refine_1=>cbv<;>exact rfl
 try simp only [spO,rD_rc,stD,zR,addQ,rcD] at ha hl hm hn ⊢
 generalize spD (fun q=>_) l=L at *
 generalize spD (fun q=>_) (setQ l s (getQ l s+x))=L2 at *
 refine A10 (fs hl (fs hm hn)) ?_;try with_reducible exact tt
 refine CallS.pu (ha) (R1 (fs hl (fs hm hn)) ?_);try with_reducible exact tt
end
section
open Go.RowKit
theorem o_13g:RS (1:Rat) 1:=by
 have:=RS.mk' (z:=1) (d:=1) (N:=1) (by decide) (by decide) (by decide)
 exact this
theorem rof1:Eqn Tryz.prog o_7v [.d (.int .i64 1)] [] (.d (rD 1)) []:=by
 have:=o_vk 1 (by omega)
 simpa using this
theorem rof0:Eqn Tryz.prog o_7v [.d (.int .i64 0)] [] (.d (rD 0)) []:=by
 have:=o_vk 0 (by omega)
 simpa using this
theorem o_13h (x:Rat) (s o:St) (hx:RS x 1000) (hso:s≠o):Eqn Tryz.prog o_dm [.d (rD x),.d (.agg (stD s)),.d (.agg (stD o))] [] (.mp 0) [spO (eitQ x s o)]:=by
 refine Eqn.gen [3] o_do (by simp) (by simp) (by rfl) (by decide) (by simp) (by simp [spO]) ?_
 have h1:RS (1-x) 2000:=(o_13g.sub hx).le (by omega)
 have a1:=o_13f [] s x (by simp only [getQ];exact ⟨by decide,by decide⟩) (hx.le (by omega))
 have a2:=o_13f (addQ [] s x) o (1-x) (by rw [addQ,o_12g,if_neg (fun h=>hso h.symm)];show RS (0:Rat) 100000;exact ⟨by decide,by decide⟩) (h1.le (by omega))
 have hs:=o_un 1 x (o_13g.le (by omega)) (hx.le (by omega))
 have ho:=rof1
 refine cc (c':=?z230) ?_ ?_
 case refine_1=>cbv<;>exact rfl
 try simp only [spO,rD_rc,stD,eitQ,spD,List.flatMap_nil,List.map_nil] at a1 a2 hs ho ⊢
 generalize (addQ [] s x).flatMap _=L1 at *
 generalize (addQ (addQ [] s x) o (1-x)).flatMap _=L2 at *
 generalize rcD (1-x)=R1 at *
 simp only [rcD] at a1 hs ho ⊢
 refine A00 ?_;try with_reducible exact tt
 refine CallS.g [3] (a1) (R0 ?_);try with_reducible exact tt
 refine CallS.pu (ho) (R0 ?_);try with_reducible exact tt
 refine CallS.pu (hs) (R0 ?_);try with_reducible exact tt
 refine CallS.g [3] (a2) (R0 ?_);try with_reducible exact tt
 done
@[simp] theorem o_13i (ks:List Nat) (vw:Nat) (kl dv:List D):mset ks vw kl dv []=some (kl++dv):=by simp [mset,mfind]
theorem o_13j (s:St):Eqn Tryz.prog o_9y [.d (.agg (stD s))] [] (.mp 0) [spO [(s,1)]]:=by
 refine Eqn.gen [1] o_a0 (by simp) (by simp) (by rfl) (by decide) (by simp) (by simp [spO]) ?_
 have ho:=rof1
 refine cc (c':=?z231) ?_ ?_
 case refine_1=>cbv<;>exact rfl
 try simp only [spO,rD_rc,stD,rcD,spD,List.flatMap_cons,List.flatMap_nil] at ho ⊢
 simp
 refine A00 ?_;try with_reducible exact tt
 refine CallS.pu (ho) (R0 ?_);try with_reducible exact tt

def chP (k a x:Nat):Rat:=if k=1 then chM a x else mkRat 1 (2^expOf k a x)
theorem o_13k (e:Nat):halfD e=rD (mkRat 1 (2^e)):=by
 obtain ⟨h1,h2,h3⟩:=o_u3 1 (2^e) (Nat.two_pow_pos e)
 have hg:Nat.gcd (1:Int).natAbs (2^e)=1:=by simp
 rw [hg] at h1 h2
 unfold halfD rD
 rw [h1,h2,show decide ((mkRat 1 (2^e)).num<0)=false by rw [decide_eq_false_iff_not,h3];decide]
 simp
theorem o_13l : MethOK Tryz.prog 162 "tallymark/chain.chance" o_jt := fun v w => by kernel_rfl
theorem o_13m (a k:Nat) (h1:1≤a) (h2:a≤4096) (hk:k≤1023) (hb:bitsN (a+1)*k≤8192):Eqn Tryz.prog o_jt [.d (.int .i64 a),.d (.int .i64 k)] [] (.tup [.d (rD (chM a k)),.d (.int .i64 0)]) []:=by
 refine Eqn.pure o_jv (o_ol _ _) ?_
 have h:=(o_11x a k h1 h2 hk hb).1
 rw [rD_rc] at h ⊢
 refine cc (c':=?z232) ?_ ?_
 case refine_1=>cbv<;>exact rfl
 try simp only [rcD] at h ⊢
 refine G0 ?_;try with_reducible exact tt
 refine CallS.pu (h) (R0 ?_);try with_reducible exact tt
theorem o_13n {k a w x : Nat} (h : GoodS k a w) (hx : x ≤ 15) : ∃ ti d g, MethOK Tryz.prog ti "tallymark/chain.chance" g ∧ kindD k a = .ifc ti d ∧ Eqn Tryz.prog g [.d d, .d (.int .i64 x)] [] (.tup [.d (rD (chP k a x)), .d (.int .i64 0)]) [] := by
 by_cases hk:k=1
 ·subst hk
  have ha:1≤a∧a≤4:=by
   rcases h.1 with ⟨-,h1,h2⟩ | ⟨h1,-⟩ | ⟨h1,-⟩
   ·exact ⟨h1,h2⟩
   ·omega
   ·omega
  refine ⟨_,_,_,o_13l,rfl,?_⟩
  rw [chP,if_pos rfl]
  have hb:bitsN (a+1)≤3:=o_q8 (by omega)
  exact o_13m a x ha.1 (by omega) (by omega) (Nat.le_trans (Nat.mul_le_mul hb hx) (by omega))
 ·obtain ⟨ti,d,g,h1,h2,h3⟩:=o_z2 h hk hx
  rw [o_13k] at h3
  exact ⟨ti,d,g,h1,h2,by rw [chP,if_neg hk];exact h3⟩
theorem o_13o {k a w x:Nat} (h:GoodS k a w) (hx:x<2^w-1):Eqn Tryz.prog o_dy [.d (parD k a w),.d (.int .i64 x)] [] (.tup [.d (rD (chP k a x)),.d (.int .i64 0)]) []:=by
 refine Eqn.pure o_e0 (o_ol _ _) ?_
 have h2:2^w-1≤15:=by have:=Nat.pow_le_pow_right (n:=2) (by omega) h.2.2;omega
 have w2:w≤10:=by have:=h.2.2;omega
 have hc:=o_ya h
 have hat:=o_xt k a w w2 x (by omega) (by omega) hc
 have ht:=o_xs k a w w2 hc
 have hkd:=o_wj k a w
 obtain ⟨ti,d,g,hm,hd,hg⟩:=o_13n (x:=x) h (by omega)
 rw [hd] at hkd
 rw [rD_rc] at hg ⊢
 refine cc (c':=?z233) ?_ ?_
 case refine_1=>cbv<;>exact rfl
 try simp only [parD,rcD] at hat ht hg ⊢
 generalize 2^w-1=W at *
 have g1:¬x=W:=by omega
 have g2:¬(x:Int)=W:=by omega
 refine G1 (fs g1 g2) ?_;try with_reducible exact tt
 refine CallS.pf 2 1 ⟨3,_⟩ [.int .i64 x] (hat) (by first | rfl | (simp [g1,g2];done)) (R1 (fs g1 g2) ?_);try with_reducible exact tt
 refine CallS.pu (ht) (R1 (fs g1 g2) ?_);try with_reducible exact tt
 refine AW.cond rfl (fun h=>?_) (fun h=>?_)
 ·simp [g2] at h
 refine G0 ?_;try with_reducible exact tt
 refine CallS.pu (hkd) (R0 ?_);try with_reducible exact tt
 refine ⟨_,hm,?_⟩
 refine CallS.pu (hg) (R0 ?_);try with_reducible exact tt
theorem o_13p {k a w:Nat} (h:GoodS k a w):Eqn Tryz.prog o_dy [.d (parD k a w),.d (.int .i64 (2^w-1:Nat))] [] (.tup [.d (.agg zR),.d (.int .i64 0)]) []:=by
 refine Eqn.pure o_e0 (o_ol _ _) ?_
 have h2:2^w-1≤15:=by have:=Nat.pow_le_pow_right (n:=2) (by omega) h.2.2;omega
 have w2:w≤10:=by have:=h.2.2;omega
 have hc:=o_ya h
 have hat:=o_xt k a w w2 ((2^w-1:Nat):Int) (by omega) (Int.le_refl _) hc
 have ht:=o_xs k a w w2 hc
 refine cc (c':=?z234) ?_ ?_
 case refine_1=>cbv<;>exact rfl
 try simp only [parD,zR] at hat ht ⊢
 generalize 2^w-1=W at *
 refine G0 ?_;try with_reducible exact tt
 refine CallS.pf 2 1 ⟨3,_⟩ [.int .i64 W] (hat) (by first | rfl | (simp;done)) (R0 ?_);try with_reducible exact tt
 refine CallS.pu (ht) (R0 ?_);try with_reducible exact tt
 refine A00 ?_;try with_reducible exact tt
theorem o_13q (k a b:Int):Eqn Tryz.prog o_dv [.d (parD k a b)] [] (.d (parD k a b)) []:=by
 refine Eqn.pure o_dx Plain.ok ?_
 refine cc (c':=?z235) ?_ ?_
 case refine_1=>cbv<;>exact rfl
 try simp only [parD]
 refine A00 ?_;try with_reducible exact tt
end
section
open Go.RowKit
theorem o_13r (x:Int):Eqn Tryz.prog o_ik [.d (.int .i64 x)] [] (.d (.bool false)) []:=by
 refine Eqn.pure o_im Plain.ok ?_
 refine cc (c':=?z236) ?_ ?_
 case refine_1=>cbv<;>exact rfl
 refine A00 ?_;try with_reducible exact tt
def cmpG (x y:Int):Int:=if x<y then -1 else if y<x then 1 else 0
theorem o_13s (x y:Int):Eqn Tryz.prog o_h5 [.d (.int .i64 x),.d (.int .i64 y)] [] (.d (.int .i64 (cmpG x y))) []:=by
 refine Eqn.pure o_h7 Plain.ok ?_
 refine cc (c':=?z237) ?_ ?_
 case refine_1=>cbv<;>exact rfl
 have h1:=o_13r x
 have h2:=o_13r y
 unfold cmpG
 by_cases g1:x<y
 ·rw [if_pos g1]
  refine A12 g1 h1 h2 ?_;try with_reducible exact tt
 ·rw [if_neg g1]
  by_cases g2:y<x
  ·rw [if_pos g2]
   refine A12 (fs g1 g2) h1 h2 ?_;try with_reducible exact tt
  ·rw [if_neg g2]
   refine A12 (fs g1 g2) h1 h2 ?_;try with_reducible exact tt
theorem o_13t (f:Bool):Eqn Tryz.prog o_h8 [.d (.bool f)] [] (.d (.int .i64 ((if f then 1 else 0)))) []:=by
 refine Eqn.pure o_ha Plain.ok ?_
 refine cc (c':=?z238) ?_ ?_
 case refine_1=>cbv<;>exact rfl
 cases f
 ·refine A00 ?_;try with_reducible exact tt
 ·refine A00 ?_;try with_reducible exact tt
def orG (a b c:Int):Int:=if a≠0 then a else if b≠0 then b else c
theorem o_13u (a b c:Int):Eqn Tryz.prog o_h2 [.d (.sl 3 [.int .i64 a,.int .i64 b,.int .i64 c])] [] (.d (.int .i64 (orG a b c))) []:=by
 refine Eqn.pure o_h4 Plain.ok ?_
 refine cc (c':=?z239) ?_ ?_
 case refine_1=>cbv<;>exact rfl
 unfold orG
 by_cases ha:a=0
 ·subst ha
  by_cases hb:b=0
  ·subst hb
   by_cases hc:c=0
   ·subst hc
    refine A00 ?_;try with_reducible exact tt
    refine AW.rounds 4 ?_
    refine A00 ?_;try with_reducible exact tt
   ·refine A00 ?_;try with_reducible exact tt
    refine AW.rounds 4 ?_
    refine A10 hc ?_;try with_reducible exact tt
  ·refine A00 ?_;try with_reducible exact tt
   refine AW.rounds 4 ?_
   refine A10 hb ?_;try with_reducible exact tt
 ·refine A00 ?_;try with_reducible exact tt
  refine AW.rounds 4 ?_
  refine A10 ha ?_;try with_reducible exact tt
end
section
open Go.RowKit
def ordI (p q:St×Rat):Int:=orG (cmpG p.1.1 q.1.1) (cmpG p.1.2.1 q.1.2.1) (cmpG (if p.1.2.2 then 1 else 0) (if q.1.2.2 then 1 else 0))
theorem o_13v (p q:St×Rat):ordI p q<0↔ltS p.1 q.1=true:=by
 obtain ⟨⟨a,b,c⟩,x⟩:=p;obtain ⟨⟨a',b',c'⟩,x'⟩:=q
 unfold ordI orG cmpG ltS
 simp only [Bool.or_eq_true,Bool.and_eq_true,decide_eq_true_eq,Bool.not_eq_true']
 cases c<;>cases c'<;>simp<;>(repeat' split)<;>omega
theorem o_13w (p q:St×Rat) (x y z x' y' z':D):Eqn Tryz.prog o_e5 [.d (.agg [.int .i64 p.1.1,.int .i64 p.1.2.1,.bool p.1.2.2,x,y,z]),.d (.agg [.int .i64 q.1.1,.int .i64 q.1.2.1,.bool q.1.2.2,x',y',z'])] [] (.d (.int .i64 (ordI p q))) []:=by
 refine Eqn.pure o_e7 Plain.ok ?_
 refine cc (c':=?z240) ?_ ?_
 case refine_1=>cbv<;>exact rfl
 have t1:=o_13t p.1.2.2
 have t2:=o_13t q.1.2.2
 have c1:=o_13s p.1.1 q.1.1
 have c2:=o_13s p.1.2.1 q.1.2.1
 have c3:=o_13s (if p.1.2.2 then 1 else 0) (if q.1.2.2 then 1 else 0)
 have ho:=o_13u (cmpG p.1.1 q.1.1) (cmpG p.1.2.1 q.1.2.1) (cmpG (if p.1.2.2 then 1 else 0) (if q.1.2.2 then 1 else 0))
 unfold ordI
 generalize cmpG (if p.1.2.2 then 1 else 0) (if q.1.2.2 then 1 else 0)=C3 at *
 generalize cmpG p.1.1 q.1.1=C1 at *
 generalize cmpG p.1.2.1 q.1.2.1=C2 at *
 generalize (if p.1.2.2 then (1:Int) else 0)=T1 at *
 generalize (if q.1.2.2 then (1:Int) else 0)=T2 at *
 generalize p.1.2.2=F1 at *
 generalize q.1.2.2=F2 at *
 refine A06B c1 c2 t1 t2 c3 c3 ?_;try with_reducible exact tt
 refine CallS.pf 4 1 ⟨3,[.d (.int .i64 C1),.d (.int .i64 C2),.d (.int .i64 C3)]⟩ [.int .i64 C1,.int .i64 C2,.int .i64 C3] (ho) (by first | rfl | (simp [-Bool.exists_bool];done)) (R0B ?_);try with_reducible exact tt

section
variable {aC:St×Rat→List D}
def rowA (aC:St×Rat→List D) (l:Sp):List V:=(l.flatMap aC).map .d
theorem o_13x (h6:∀p,(aC p).length=6) (l:Sp):(rowA aC l).length=l.length*6:=by
 rw [rowA,List.length_map,o_11s h6]
@[simp] theorem o_13y (n:Nat) (l:Sp):V.lowl n (rowA aC l)=true:=o_62 _ _
@[simp] theorem o_13z (θ:Nat→Nat) (l:Sp):V.rens θ (rowA aC l)=rowA aC l:=o_61 _ _
theorem o_140 (h6:∀p,(aC p).length=6) (l:Sp) (i:Nat) (h:i<l.length):((rowA aC l).drop (i*6)).take 6=(aC l[i]).map .d:=by
 rw [rowA,←List.map_drop,←List.map_take,o_11u h6 l i h]
theorem o_141 (l k:Sp):rowA aC (l++k)=rowA aC l++rowA aC k:=by simp [rowA]
def SortTo (L K:Sp):Prop:=∀K':Sp,K'.Perm L→K'.Pairwise (fun a b=>ltS a.1 b.1=true)→K'=K
end
end
section
open Go.RowKit
def topC (w:Nat):Nat:=2^w-1
def onQ (w:Nat) (s:St) (x:Rat):Sp:=if s.1=topC w then [((s.1,s.2.1,true),1)] else eitQ x (s.1+1,s.2) s
theorem o_142 {k a w:Nat} (h:GoodS k a w) (s:St) (hs:s.1≤topC w) (x:Rat) (hx:RS x 1000) (X:D) (hX:Sub1 (.d X) (.d (rD x))) (hX2:∃x0 x1 x2,X = .agg [x0,x1,x2]) :
  Eqn Tryz.prog o_e1 [.d (parD k a w),.d (.agg (stD s)),.d X] [] (.mp 0) [spO (onQ w s x)]:=by
 have h15:topC w≤15:=by have:=Nat.pow_le_pow_right (n:=2) (by omega) h.2.2;unfold topC;omega
 have w2:w≤10:=by have:=h.2.2;omega
 have hc:=o_ya h
 have ht:=o_xs k a w w2 hc
 have hl:=o_13q k a w
 rw [show 2^w-1=topC w from rfl] at ht
 obtain ⟨x0,x1,x2,rfl⟩:=hX2
 obtain ⟨s1,s2,s3⟩:=s
 simp only at hs
 unfold onQ
 generalize topC w=W at *
 by_cases e:s1=W
 ·subst e
  rw [if_pos rfl]
  refine Eqn.gen [3] o_e3 (by simp) (by simp) (by rfl) (by decide) (by simp) (by simp [spO]) ?_
  have hsu:=o_13j (s1,s2,true)
  refine cc (c':=?z242) ?_ ?_
  case refine_1=>cbv<;>exact rfl
  try simp only [spO,stD,parD] at ht hl hsu ⊢
  generalize spD rcD [((s1,s2,true),1)]=L at *
  refine A00 ?_;try with_reducible exact tt
  refine CallS.pu (hl) (R0 ?_);try with_reducible exact tt
  refine CallS.pu (ht) (R0 ?_);try with_reducible exact tt
  refine A00 ?_;try with_reducible exact tt
  refine CallS.nX (hsu) (R0 ?_);try with_reducible exact tt
 ·rw [if_neg e]
  have hei:=o_13h x (s1+1,s2,s3) (s1,s2,s3) hx (by simp)
  replace hei:=hei.sub (Subs.cons hX (Subs.refl _))
  have e1:¬(s1:Int)=(W:Int):=by omega
  have ew:IntKind.i64.wrap ((s1:Int)+1)=((s1+1:Nat):Int):=by rw [w64 (by omega) (by omega)];omega
  refine Eqn.gen [4] o_e3 (by simp) (by simp) (by rfl) (by decide) (by simp) (by simp [spO]) ?_
  refine cc (c':=?z243) ?_ ?_
  case refine_1=>cbv<;>exact rfl
  try simp only [spO,stD,parD] at ht hl hei ⊢
  generalize spD rcD _=L at *
  refine A00 ?_;try with_reducible exact tt
  refine CallS.pu (hl) (R0 ?_);try with_reducible exact tt
  refine CallS.pu (ht) (R1 (fs e e1) ?_);try with_reducible exact tt
  refine A10 (fs e (fs e1 ew)) ?_;try with_reducible exact tt
  refine CallS.nX (hei) (R1 ew ?_);try with_reducible exact tt
end
section
open Go.RowKit
end
section
open Go.RowKit
def atomC (p:St×Rat):List D:=stD p.1++rcD p.2
theorem o_143 (p:St×Rat):(atomC p).length=6:=rfl
theorem o_144 (l:Sp):spD rcD l=l.flatMap atomC:=rfl
theorem o_145 (p q:St×Rat):Eqn Tryz.prog o_e5 [.d (.agg (atomC p)),.d (.agg (atomC q))] [] (.d (.int .i64 (ordI p q))) []:=o_13w p q _ _ _ _ _ _
def seenV (σ:List Nat):List V:=σ.map fun i:Nat=>V.d (.int .i64 (i:Int))
@[simp] theorem o_146:∀σ:List Nat,seenOf (seenV σ)=some σ
 | []=>rfl
 | i::σ=>by
  have:=o_146 σ
  unfold seenV at *
  rw [List.map_cons,seenOf,if_pos (by omega),this]
  simp
@[simp] theorem o_147 (σ:List Nat) (i:Nat):seenV σ++[V.d (.int .i64 (i:Int))]=seenV (σ++[i]):=by simp [seenV]
@[simp] theorem o_148 (n:Nat) (σ:List Nat):V.lowl n (seenV σ)=true:=by
 induction σ with
 | nil=>rfl
 | cons i σ ih=>unfold seenV at *;simp [V.lowl,V.low,ih]
@[simp] theorem o_149 (θ:Nat→Nat) (σ:List Nat):V.rens θ (seenV σ)=seenV σ:=by
 induction σ with
 | nil=>rfl
 | cons i σ ih=>unfold seenV at *;simp [V.rens,V.ren,ih]
theorem o_14a:seenV []=[]:=rfl
def metQ (l:Sp) (σ:List Nat):Sp:=σ.flatMap fun i=>match l[i]? with
 | some p=>if p.2=0 then [] else [p]
 | none=>[]
theorem o_14b (l:Sp) (σ:List Nat) (i:Nat) (h:i<l.length):metQ l (σ++[i])=metQ l σ++if l[i].2=0 then [] else [l[i]]:=by
 simp [metQ,List.flatMap_append,List.getElem?_eq_getElem h]
theorem o_14c (l:Sp) (σ:List Nat) (hp:σ.Perm (List.range l.length)):(metQ l σ).Perm (nzQ l):=by
 have h1:(metQ l σ).Perm (metQ l (List.range l.length)):=List.Perm.flatMap_right _ hp
 refine h1.trans (List.Perm.of_eq ?_)
 have key:∀n,n≤l.length→metQ l (List.range n)=nzQ (l.take n):=by
  intro n
  induction n with
  | zero=>intro _;rfl
  | succ n ih =>
   intro hn
   rw [List.range_succ,o_14b l _ n (by omega),ih (by omega),List.take_add_one,List.getElem?_eq_getElem (by omega)]
   unfold nzQ
   rw [List.filter_append]
   congr 1
   simp only [Option.toList,List.filter_cons,List.filter_nil]
   by_cases h:l[n].2=0<;>simp [h]
 rw [key l.length (Nat.le_refl _),List.take_length]
theorem o_14d (l L:Sp) (hu:Uq l) (hp:L.Perm (nzQ l)):SortTo L (atQ l):=fun K' h1 h2=>o_12x hu (h1.trans hp) h2
end
section
open Go.RowKit
theorem o_14e {x y z:St} (h1:ltS x y=false) (h2:ltS y z=false):ltS x z=false:=by
 cases h:ltS x z with
 | false=>rfl
 | true =>
  rcases o_12s x y with h3 | h3 | h3
  ·rw [h3] at h1;cases h1
  ·rw [←h3,h] at h2;cases h2
  ·rw [o_12r h3 h] at h2;cases h2
structure AtV (I:Nat→Prop) (w:World):Type where
 enc:List Value
 «at» : St × Rat
 rep : D.reps I w (atomC «at») enc
 one:∀u∈enc,u.oneCell'=true
theorem AtV.len {I:Nat→Prop} {w:World} (x:AtV I w):x.enc.length=6:=by rw [D.reps_len x.rep];rfl
theorem D.reps_split {I:Nat→Prop} {w:World}:∀{l k:List D} {vs:List Value},D.reps I w (l++k) vs→∃us ws,vs=us++ws∧D.reps I w l us∧D.reps I w k ws
 | [],k,vs,h=>⟨[],vs,rfl,D.reps_nil.2 rfl,h⟩
 | x::l,k,vs,h=>by
  obtain ⟨v,r,rfl,h1,h2⟩:=D.reps_cons'.1 h
  obtain ⟨us,ws,rfl,h3,h4⟩:=D.reps_split h2
  exact ⟨v::us,ws,rfl,D.reps_cons.2 ⟨h1,h3⟩,h4⟩
theorem o_14f {I : Nat → Prop} {w : World} : ∀ (L : Sp) (us : List Value), D.reps I w (L.flatMap atomC) us → (∀ u ∈ us, u.oneCell' = true) → ∃ dl : List (AtV I w), dl.map AtV.«at» = L ∧ dl.flatMap AtV.enc = us
 | [],us,h,_=>by
  simp at h
  exact ⟨[],rfl,by simp [h]⟩
 | p::L,us,h,h1=>by
  rw [List.flatMap_cons] at h
  obtain ⟨a,b,rfl,h2,h3⟩:=D.reps_split h
  obtain ⟨dl,h4,h5⟩:=o_14f L b h3 fun u hu=>h1 u (by simp [hu])
  exact ⟨⟨a,p,h2,fun u hu=>h1 u (by simp [hu])⟩::dl,by rw [List.map_cons,h4],by rw [List.flatMap_cons,h5]⟩
theorem o_14g {I : Nat → Prop} {w : World} : ∀ dl : List (AtV I w), D.reps I w ((dl.map AtV.«at»).flatMap atomC) (dl.flatMap AtV.enc)
 | []=>by simp
 | x::dl=>by
  rw [List.map_cons,List.flatMap_cons,List.flatMap_cons]
  exact D.reps_append x.rep (o_14g dl)
theorem o_14h {I:Nat→Prop} {w:World}:∀dl:List (AtV I w),(dl.flatMap AtV.enc).length=dl.length*6
 | []=>rfl
 | x::dl=>by rw [List.flatMap_cons,List.length_append,o_14h dl,x.len,List.length_cons];omega
theorem o_14i {α:Type} {k:Nat} (enc:α→List Value) (hk:∀x,(enc x).length=k):∀(l:List α) (t:Nat) (h:t<l.length*k),∃x,l[t/k]?=some x∧(l.flatMap enc)[t]?=(enc x)[t%k]?
 | [],t,h=>by simp at h
 | x::l,t,h=>by
  have k0:0<k:=by
   rcases Nat.eq_zero_or_pos k with h0 | h0
   ·subst h0;simp at h
   ·exact h0
  rw [List.flatMap_cons]
  by_cases ht:t<k
  ·refine ⟨x,by rw [Nat.div_eq_of_lt ht];rfl,?_⟩
   rw [List.getElem?_append_left (by rw [hk];exact ht),Nat.mod_eq_of_lt ht]
  ·have hd:t/k=(t-k)/k+1:=by
    rw [show t=(t-k)+k by omega,Nat.add_div_right _ k0];simp
   have hm:t%k=(t-k)%k:=by
    conv=>lhs;rw [show t=(t-k)+k by omega,Nat.add_mod_right]
   obtain ⟨y,h1,h2⟩:=o_14i enc hk l (t-k) (by rw [List.length_cons,Nat.add_mul] at h;omega)
   refine ⟨y,by rw [hd];exact h1,?_⟩
   rw [List.getElem?_append_right (by rw [hk];omega),hk,h2,hm]
theorem o_14j {α:Type} [Inhabited α] {k:Nat} (enc:α→List Value) (hk:∀x,(enc x).length=k) (hfl:∀l:List α,(l.flatMap enc).length=l.length*k) (dl:List α):Go.Sort.flatK enc k dl.toArray=(dl.flatMap enc).toArray:=by
 apply Array.ext
 ·rw [Go.Sort.size_flatK];simp [hfl]
 ·intro t h1 h2
  have ht:t<dl.length*k:=by rw [Go.Sort.size_flatK] at h1;simpa using h1
  obtain ⟨x,e1,e2⟩:=o_14i enc hk dl t ht
  have h3:=Go.Sort.get_flatK enc k dl.toArray t (by simpa using ht)
  rw [getElem!_pos _ t h1] at h3
  rw [h3]
  have e3:dl.toArray[t/k]! = x:=by simp [Array.getElem!_eq_getD,Array.getD_eq_getD_getElem?,e1]
  rw [e3]
  have k0:0<k:=by
   rcases Nat.eq_zero_or_pos k with h0 | h0
   ·subst h0;simp at ht
   ·exact h0
  have h4:t%k<(enc x).length:=by rw [hk];exact Nat.mod_lt _ k0
  rw [List.getElem?_eq_getElem h4] at e2
  have e4:(dl.flatMap enc)[t]'(by rw [hfl];exact ht)=(enc x)[t%k]:=by
   have h5:t<(dl.flatMap enc).length:=by rw [hfl];exact ht
   rw [List.getElem?_eq_getElem h5] at e2
   exact Option.some.inj e2
  rw [getElem!_pos (enc x) _ h4]
  simp only [List.getElem_toArray]
  exact e4.symm
end
section
open Go.RowKit
instance : Inhabited (St × Rat) := ⟨((0, 0, false), 0)⟩
section
variable {α:Type} [Inhabited α] (enc:α→List Value) (k:Nat)
theorem o_14k (w:World) (b off n:Nat) (d:Array α) (os:Array Obj):(sortWorldK enc k w b off n d os).heap=w.heap.modify b (Go.Sort.onCells (Go.Sort.putCells id off (Go.Sort.flatK enc k d)))++os:=rfl
theorem o_14l (w:World) (b off n:Nat) (d:Array α) (os:Array Obj) {c:Nat} (hc:c<w.heap.size) (h:c≠b):(sortWorldK enc k w b off n d os).heap[c]?=w.heap[c]?:=by
 rw [o_14k,Array.getElem?_append,if_pos (by simpa using hc),Array.getElem?_modify,if_neg (fun e=>h e.symm)]
theorem o_14m (w:World) (b off n:Nat) (d:Array α) (os:Array Obj) {c:Array Value} {T:TypeId} {fr:Nat×Nat} (h:w.heap[b]?=some (.cells c T fr)) :
  (sortWorldK enc k w b off n d os).heap[b]?=some (.cells (Go.Sort.putCells id off (Go.Sort.flatK enc k d) c) T fr):=by
 have hc:b<w.heap.size:=(Array.getElem?_eq_some_iff.1 h).1
 rw [o_14k,Array.getElem?_append,if_pos (by simpa using hc),Array.getElem?_modify,if_pos rfl,h]
 rfl
theorem o_14n (w:World) (b off n:Nat) (d:Array α) (os:Array Obj):(sortWorldK enc k w b off n d os).heap.size=w.heap.size+os.size:=by
 rw [o_14k,Array.size_append,Array.size_modify]
end
theorem o_14o (us vs more:List Value) (h:us.length=vs.length):Go.Sort.putCells id 0 us.toArray (vs++more).toArray=(us++more).toArray:=by
 apply Array.ext_getElem?
 intro j
 rw [Go.Sort.putCells,Array.getElem?_mapIdx]
 simp only [List.getElem?_toArray,List.size_toArray,Nat.zero_le,true_and,Nat.zero_add,Nat.sub_zero]
 by_cases hj:j<us.length
 ·rw [List.getElem?_append_left hj,List.getElem?_append_left (by omega),List.getElem?_eq_getElem hj,List.getElem?_eq_getElem (by omega:j<vs.length)]
  simp [hj]
 ·rw [List.getElem?_append_right (by omega),List.getElem?_append_right (by omega),h]
  cases more[j-vs.length]? with
  | none=>rfl
  | some y=>simp [show ¬j<vs.length by omega]
theorem o_14p {α:Type} [Inhabited α] (enc:α→List Value) (k:Nat) (w:World) (b n:Nat) (d:Array α) (os:Array Obj) {c:Nat} (hc:c<w.heap.size):(sortWorldK enc k w b 0 n d os).shape? c=w.shape? c:=by
 unfold World.shape?
 by_cases h:c=b
 ·subst h
  rw [o_14k,Array.getElem?_append,if_pos (by simpa using hc),Array.getElem?_modify,if_pos rfl]
  cases h1:w.heap[c]? with
  | none=>rfl
  | some o=>cases o<;>simp [Go.Sort.onCells,Go.Sort.putCells]
 ·rw [o_14l enc k w b 0 n d os hc h]

theorem o_14q {W w:World} (l1:w.os=W.os) (l2:w.tape=W.tape) (l3:w.output=W.output) (l4:W.drawn≤w.drawn) (l5:W.heap.size≤w.heap.size) (l6:∀c,c<W.heap.size→w.heap[c]?=W.heap[c]?) :
  w=Go.Sort.grow (W.drewN (w.drawn-W.drawn)) (w.heap.extract W.heap.size w.heap.size):=by
 obtain ⟨w1,w2,w3,w4,w5⟩:=w
 obtain ⟨u1,u2,u3,u4,u5⟩:=W
 simp only at l1 l2 l3 l4 l5 l6
 subst l1 l2 l3
 show World.mk _ _ _ _ _=World.mk _ _ _ _ _
 congr 1
 ·apply Array.ext_getElem?
  intro j
  show w1[j]?=(u1++w1.extract u1.size w1.size)[j]?
  rw [Array.getElem?_append]
  split
  ·exact l6 j (by assumption)
  ·rename_i hj
   rw [Array.getElem?_extract]
   split
   ·congr 1;omega
   ·exact Array.getElem?_eq_none (by omega)
 ·show w3=u3+(w3-u3)
  omega

def cfA {I:Nat→Prop} {w:World} (x y:AtV I w):Int:=ordI x.at y.at
theorem ltA {I:Nat→Prop} {w:World} (x y:AtV I w):ltOf cfA x y=ltS x.at.1 y.at.1:=by
 unfold ltOf cfA
 cases h:ltS x.at.1 y.at.1 with
 | true=>exact decide_eq_true ((o_13v _ _).2 h)
 | false=>exact decide_eq_false fun h1=>by rw [(o_13v _ _).1 h1] at h;cases h
theorem o_14r (s:St):ltS s s=false:=by
 cases h:ltS s s with
 | false=>rfl
 | true=>simp [ltS] at h
theorem swoA {I:Nat→Prop} {w:World}:Go.Sort.SWO (ltOf (cfA (I:=I) (w:=w))) where
 irrefl x:=by rw [ltA];exact o_14r _
 trans x y z h1 h2:=by rw [ltA] at *;exact o_12r h1 h2
 ntrans x y z h1 h2:=by rw [ltA] at *;exact o_14e h1 h2

theorem cmpA {m:Mem} (hb:m.base) (b:Nat) (hbI:¬m.I b) (hbs:b<m.w.heap.size) (N:Nat) [Inhabited (AtV m.I m.w)] :
  CmpLays Tryz.prog o_e5 #[] (AtV.enc (I:=m.I) (w:=m.w)) 6 cfA b 0 N m.w:=by
 intro n os dk hs x y
 obtain ⟨W,hW⟩:∃W,W=sortWorldK (AtV.enc (I:=m.I) (w:=m.w)) 6 m.w b 0 n dk os:=⟨_,rfl⟩
 rw [←hW]
 have hI:∀c,m.I c→W.heap[c]?=m.w.heap[c]?:=fun c hc=>by rw [hW];exact o_14l _ _ _ _ _ _ _ _ (hb.imm c hc) fun e=>hbI (e▸hc)
 have hbase:Mem.base ⟨fun _=>none,m.I,W⟩:=⟨fun c hc=>by
   show c<W.heap.size
   rw [hW,o_14n]
   have:=hb.imm c hc
   omega,fun _ _ h=>(by cases h),hb.tabs.mono (fun _ h=>h) hI⟩
 have hx:=D.reps_mono (fun _ h=>h) hI _ _ x.rep
 have hy:=D.reps_mono (fun _ h=>h) hI _ _ y.rep
 have hr:=(o_145 x.at y.at).run ⟨fun _=>none,m.I,W⟩ [.agg x.enc.toArray,.agg y.enc.toArray] hbase
  ⟨_,_,rfl,⟨x.enc,rfl,x.one,hx⟩,_,_,rfl,⟨y.enc,rfl,y.one,hy⟩,rfl⟩ (by simp) (by simp) (by simp)
 have he:=o_6j o_e7 #[.agg x.enc.toArray,.agg y.enc.toArray] W
 rcases hr with ⟨v,h1,h2⟩ | ⟨h1,h2⟩
 ·rw [show ([.agg x.enc.toArray,.agg y.enc.toArray]:List Value).toArray = #[.agg x.enc.toArray,.agg y.enc.toArray] from rfl,he] at h1
  cases h1
 ·refine h2.mono ?_
  rintro e w' ⟨v,m',rfl,rfl,h⟩
  refine ⟨by rw [show v = .int .i64 (ordI x.at y.at) from h.rep];rfl,m'.w.drawn-W.drawn,m'.w.heap.extract W.heap.size m'.w.heap.size,?_⟩
  have l1:m'.w.os=W.os:=h.le.os
  have l2:m'.w.tape=W.tape:=h.le.tape
  have l3:m'.w.output=W.output:=h.le.output
  have l4:W.drawn≤m'.w.drawn:=h.le.drawn
  have l5:W.heap.size≤m'.w.heap.size:=h.le.size
  have l6:∀c,c<W.heap.size→m'.w.heap[c]?=W.heap[c]?:=fun c hc=>h.le.block c hc fun n hn=>absurd hn (by simp)
  exact o_14q l1 l2 l3 l4 l5 l6
end
section
open Go.RowKit
theorem o_14s {I:Nat→Prop} {w:World} [Inhabited (AtV I w)] (l:List (AtV I w)) (hn:(l.map fun x=>x.at.1).Nodup) (hs:Go.Sort.SortedIn (ltOf cfA) 0 l.length l.toArray) :
  (l.map AtV.«at»).Pairwise fun a b => ltS a.1 b.1 = true := by
 rw [List.pairwise_map,List.pairwise_iff_getElem]
 intro i j hi hj hij
 have h:=hs i j (Nat.zero_le _) hij hj
 rw [ltA,getElem!_pos l.toArray j (by simpa using hj),getElem!_pos l.toArray i (by simpa using hi),List.getElem_toArray,List.getElem_toArray] at h
 rcases o_12s l[i].at.1 l[j].at.1 with h1 | h1 | h1
 ·exact h1
 ·exfalso
  have:=(List.getElem_inj (h₀:=by simpa using hi) (h₁:=by simpa using hj) hn).1 (by simpa using h1)
  omega
 ·rw [h1] at h;cases h

set_option maxHeartbeats 2000000 in
theorem o_14t (L:Sp) (hu:Uq L) (h0:1≤L.length) (hl:L.length<4611686018427387904) (K:Sp) (hK:SortTo L K) :
  Eqn Tryz.prog o_e4 [.own 0 6 L.length,.fn (.func o_e5) []] [⟨75,rowA atomC L⟩] (.tup []) [⟨75,rowA atomC K⟩]:=by
 refine ⟨by simp,by simp,by rfl,by simp [rowA,o_62],?_⟩
 intro m vs hb hv ho hinj htop
 obtain ⟨v1,r1,rfl,hv1,v2,r2,rfl,hv2,rfl⟩:=hv
 obtain ⟨b,t,k,cap,hρ,hsh,rfl,rfl,hcap,hmax⟩:=hv1
 obtain ⟨cs,rfl,rfl⟩:=hv2
 obtain ⟨b',us,more,hρ',hheap,hone,hrep,hnI⟩:=ho 0 _ rfl
 obtain rfl:b=b':=by rw [hρ] at hρ';exact Option.some.inj hρ'
 have hrep':D.reps m.I m.w (L.flatMap atomC) us:=V.reps_map_d.1 hrep
 rw [o_0 (show (75:Nat)<TG by decide)] at hheap
 have hbs:=hb.dom 0 b hρ
 obtain ⟨dl,hd1,hd2⟩:=o_14f L us hrep' hone
 have hlen:dl.length=L.length:=by rw [←hd1];simp
 haveI:Inhabited (AtV m.I m.w):=⟨dl.head fun e=>by rw [e] at hlen;simp at hlen;omega⟩
 have hfl:=o_14j AtV.enc AtV.len o_14h dl
 have hH:Go.Sort.HoldsK AtV.enc 6 m.w b 0 dl.toArray:=by
  unfold Go.Sort.HoldsK
  rw [hfl,hd2]
  intro j hj
  have hj':j<us.length:=by simpa using hj
  refine ⟨?_,?_⟩
  ·unfold World.cell?
   rw [hheap]
   simp [List.getElem?_append_left hj',hj']
  ·unfold World.frozen?
   simp [hheap]
 have main:=AnyQ.slices_SortFunc (ρ:=renA) sortL 6 aggAtom sizeAtom AtV.enc AtV.len (fun x v hv=>x.one v hv) cfA swoA o_e5 #[] b 0 cap dl.toArray m.w (fun vs w=>o_6j o_e7 vs w) (cmpA hb b hnI hbs _) hH hbs (by simp;omega)
 refine .inr ⟨sortL.f6.enters rfl _ _,?_⟩
 have e0:(dl.toArray.size:Nat)=L.length:=by simp [hlen]
 rw [e0] at main
 refine main.mono ?_
 rintro e w' ⟨rfl,d',n,os,hp,hs,rfl⟩
 obtain ⟨l',rfl⟩:∃l':List (AtV m.I m.w),d'=l'.toArray:=⟨d'.toList,by simp⟩
 have hl':l'.length=dl.length:=by have:=hp.1;simpa using this
 have hp':l'.Perm dl:=by
  have:=hp.2.2
  rw [←e0] at this
  have h2:(List.take dl.length l').Perm dl:=by simpa using this
  rwa [←hl',List.take_length] at h2
 have hfl':=o_14j AtV.enc AtV.len o_14h l'
 have hus:(l'.flatMap AtV.enc).length=us.length:=by rw [←hd2,o_14h,o_14h,hl']
 have hnod:(l'.map fun x=>x.at.1).Nodup:=by
  have:(dl.map fun x=>x.at.1)=L.map (·.1):=by rw [←hd1,List.map_map];rfl
  rw [(hp'.map _).nodup_iff,this];exact hu
 have hKe : l'.map AtV.«at» = K := hK _ (by rw [← hd1]; exact hp'.map _) (o_14s l' hnod (by rw [hl', hlen]; exact hs))
 have hblk:=o_14m AtV.enc 6 m.w b 0 n l'.toArray os hheap
 rw [hfl',o_14o _ _ _ hus] at hblk
 obtain ⟨W,hW⟩:∃W,W=sortWorldK AtV.enc 6 m.w b 0 n l'.toArray os:=⟨_,rfl⟩
 have hne:∀c,c<m.w.heap.size→c≠b→W.heap[c]?=m.w.heap[c]?:=fun c hc h=>by rw [hW];exact o_14l _ _ _ _ _ _ _ _ hc h
 have hsz:m.w.heap.size≤W.heap.size:=by rw [hW,o_14n];omega
 have hshp:∀c,c<m.w.heap.size→W.shape? c=m.w.shape? c:=fun c hc=>by rw [hW];exact o_14p _ _ _ _ _ _ _ hc
 have hI:∀c,m.I c→W.heap[c]?=m.w.heap[c]?:=fun c hc=>hne c (hb.imm c hc) fun e=>hnI (e▸hc)
 have l1:W.os=m.w.os:=by rw [hW];rfl
 have l2:W.tape=m.w.tape:=by rw [hW];rfl
 have l3:W.output=m.w.output:=by rw [hW];rfl
 have l4:m.w.drawn≤W.drawn:=by rw [hW];exact Nat.le_add_right _ _
 rw [←hW] at hblk ⊢
 have hle:m.le ⟨m.ρ,m.I,W⟩ (· < 1):=⟨fun _ _ h=>h,fun _ h=>h,l1,l2,l3,l4,hsz,fun c hc h=>hne c hc fun e=>h 0 (by decide) (by rw [e];exact hρ),hshp,hI,fun _ h=>.inl h,fun _ _ h=>.inl h⟩
 refine ⟨.tuple #[],⟨m.ρ,m.I,W⟩,rfl,rfl,⟨fun c hc=>Nat.lt_of_lt_of_le (hb.imm c hc) hsz,fun i c hc=>Nat.lt_of_lt_of_le (hb.dom i c hc) hsz,hb.tabs.mono (fun _ h=>h) hI⟩,hle,⟨[],rfl,rfl⟩,?_,?_,?_,?_⟩
 ·intro i ob _ hob
  match i,hob with
  | 0,hob =>
   simp only [List.getElem?_cons_zero,Option.some.injEq] at hob
   subst hob
   refine ⟨b,l'.flatMap AtV.enc,more,hρ,?_,?_,?_,hnI⟩
   ·rw [o_0 (show (75:Nat)<TG by decide)];exact hblk
   ·intro u hu
    rw [List.mem_flatMap] at hu
    obtain ⟨x,_,hx⟩:=hu
    exact x.one u hx
   ·refine V.reps_map_d.2 (D.reps_mono (fun _ h=>h) hI _ _ ?_)
    rw [←hKe]
    exact o_14g l'
  | i+1,hob=>simp at hob
 ·intro i j c _ _ hi hj _ _
  simp at hi hj
  omega
 ·intro i hi;exact htop i (by simpa using hi)
 ·intro i c hi hc
  rw [show (⟨m.ρ,m.I,W⟩:Mem).ρ i=m.ρ i from rfl,htop i (by simpa using hi)] at hc
  cases hc
end
section
open Go.RowKit
@[simp] theorem o_14u (n s:Nat) (ds l:List D):V.frzs n s ds (l.map V.d)=l.map V.d:=by
 rw [o_59,List.map_map]
 apply List.map_congr_left
 intro x _
 simp
def slM (l:Sp) (σ:List Nat):List V:=setS (List.replicate 26 .junk) [(0,.mp 0),(3,if (metQ l σ).length=0 then .d .nilsl else .own 2 6 (metQ l σ).length),(7,.p 1 0)]
def hpM (l:Sp) (σ:List Nat):List (Option Ob):=[some (spO l),some ⟨1000000,.mp 0::.d (.int .i64 (l.length:Nat))::seenV σ⟩]++if (metQ l σ).length=0 then [] else [some ⟨75,rowA atomC (metQ l σ)⟩]
theorem o_14v (q:Rat):(cmpQ q 0≠0)↔q≠0:=by
 unfold cmpQ
 by_cases h1:q<0
 ·rw [if_pos h1];constructor
  ·intro _ h;subst h;exact absurd h1 (by decide)
  ·intro _ h;cases h
 ·rw [if_neg h1]
  by_cases h2:0<q
  ·rw [if_pos h2];constructor
   ·intro _ h;subst h;exact absurd h2 (by decide)
   ·intro _ h;cases h
  ·rw [if_neg h2];constructor
   ·intro h;exact absurd rfl h
   ·intro h;exact absurd (Rat.le_antisymm (Rat.not_lt.1 h2) (Rat.not_lt.1 h1)) h
set_option maxHeartbeats 4000000 in
theorem o_14w (l:Sp) (hu:Uq l) (h0:nzQ l≠[]) (hl:l.length≤1000000) (hr:∀p∈l,RS p.2 100000):Eqn Tryz.prog o_9p [.mp 0] [spO l] (.d (.sl (atQ l).length (spD rcD (atQ l)))) [spO l]:=by
 refine Eqn.gen [0] o_9r (by simp) (by simp) (by rfl) (by decide) (by simp) (by simp [spO]) ?_
 have hn:=o_12e rcD (fun _=>rfl) l
 refine cc (c':=?z246) ?_ ?_
 case refine_1=>cbv<;>exact rfl
 try simp only [spO]
 refine A10 hn ?_;try with_reducible exact tt
 refine AW.loopG (α:=List Nat) (fun σ=>slM l σ) (fun σ=>hpM l σ) (fun σ=>σ.Nodup∧∀i∈σ,i<l.length) (fun σ=>l.length-σ.length) [] ?_ ⟨by simp,by simp⟩ ?_ ?_ ?_
 ·intro σ _;unfold hpM;split<;>simp [spO]
 ·simp [slM,hpM,metQ]
 ·simp [hpM,metQ,spO,hn,o_14a]
 rintro σ ⟨hnd,hlt⟩
 have hbnd:σ.length≤l.length:=by
  have h2:σ.length≤(List.range l.length).length:=hnd.length_le_of_subset fun i hi=>List.mem_range.2 (hlt i hi)
  simpa using h2
 have ent:∀i (hi:i<l.length),∃(s1 s2:Nat) (s3:Bool) (q:Rat) (N1 N2 N3:D),l[i]=((s1,s2,s3),q)∧rcD q=[N1,N2,N3]∧RS q 100000∧((spD rcD l).drop (i*6)).take 3=[.int .i64 s1,.int .i64 s2,.bool s3]∧((spD rcD l).drop (i*6+3)).take 3=[N1,N2,N3]:=by
  intro i hi
  obtain ⟨⟨⟨s1,s2,s3⟩,q⟩,hp⟩:∃p,l[i]=p:=⟨_,rfl⟩
  have h6:=o_11u (n:=6) (f:=atomC) o_143 l i hi
  rw [hp,←o_144] at h6
  have h1:((spD rcD l).drop (i*6)).take 3=(((spD rcD l).drop (i*6)).take 6).take 3:=by rw [List.take_take];rfl
  have h2:((spD rcD l).drop (i*6+3)).take 3=(((spD rcD l).drop (i*6)).take 6).drop 3:=by rw [←List.drop_drop];simp [List.drop_take]
  refine ⟨s1,s2,s3,q,_,_,_,hp,rfl,hr ((s1,s2,s3),q) (by have:=List.getElem_mem hi;rw [hp] at this;exact this),?_,?_⟩
  ·rw [h1,h6];rfl
  ·rw [h2,h6];rfl
 have allp:(∀i,i<l.length→i∈σ)→σ.Perm (List.range l.length):=fun hall=>(List.perm_ext_iff_of_nodup hnd List.nodup_range).2 fun i=>⟨fun h=>List.mem_range.2 (hlt i h),fun h=>hall i (List.mem_range.1 h)⟩
 have ho:=rof0
 have h12:(nzQ l).length≤1000000:=Nat.le_trans (List.length_filter_le _ _) hl
 by_cases m0:(metQ l σ).length=0
 ·have mz:metQ l σ=[]:=List.eq_nil_of_length_eq_zero m0
  rw [slM,hpM,if_pos m0,if_pos m0]
  simp [spO]
  refine A10 hn ?_;try with_reducible exact tt
  refine ⟨fun i hi hin=>?_,fun hall=>?_⟩
  ·obtain ⟨s1,s2,s3,q,N1,N2,N3,hp,hN,hq,hK,hV⟩:=ent i hi
   have hc:=o_uo q 0 hq (show RS (0:Rat) 100000 from ⟨by decide,by decide⟩)
   have hms:=o_14b l σ i hi
   rw [hp] at hms
   have hR:(σ++[i]).Nodup∧∀j∈σ++[i],j<l.length:=by
    refine ⟨by rw [List.nodup_append];exact ⟨hnd,by simp,fun a ha b hb e=>by simp at hb;subst hb;exact hin (e▸ha)⟩,fun j hj=>?_⟩
    rcases List.mem_append.1 hj with hj | hj
    ·exact hlt j hj
    ·simp at hj;subst hj;exact hi
   have hl1:(σ++[i]).length≤l.length:=by
    have h2:(σ++[i]).length≤(List.range l.length).length:=hR.1.length_le_of_subset fun j hj=>List.mem_range.2 (hR.2 j hj)
    simpa using h2
   rw [List.length_append,List.length_singleton] at hl1
   have hz0:rcD 0=[natW 0,.bool false,natW 0]:=rfl
   rw [rD_rc,rD_rc,hN] at hc
   rw [rD_rc] at ho
   rw [hz0] at hc ho
   refine A10 (fs hi (fs hn (fs hK hV))) ?_;try with_reducible exact tt
   refine CallS.pu (ho) (R1 (fs hi (fs hn (fs hK hV))) ?_);try with_reducible exact tt
   refine CallS.pu (hc) (R0 ?_);try with_reducible exact tt
   by_cases hq0:q=0
   ·have hc0:cmpQ q 0=0:=Classical.byContradiction fun h=>(o_14v q).1 h hq0
    refine A10 hc0 ?_;try with_reducible exact tt
    have e':metQ l (σ++[i])=[]:=by rw [hms,mz];simp [hq0]
    refine ⟨σ++[i],1,1,⟨by omega,by omega,by omega,by omega⟩,hR,by simp;omega,?_,?_⟩
    ·simp [slM,hpM,e',spO,swT,swH,sw,Ob.sw,V.ren,V.rens]
    ·simp [slM,hpM,e',spO,swT,swH,sw,Ob.sw,V.ren,V.rens]
   ·have hc0:¬cmpQ q 0=0:=(o_14v q).2 hq0
    refine A10 hc0 ?_;try with_reducible exact tt
    have e':metQ l (σ++[i])=[((s1,s2,s3),q)]:=by rw [hms,mz];simp [hq0]
    refine ⟨σ++[i],2,5,⟨by omega,by omega,by omega,by omega⟩,hR,by simp;omega,?_,?_⟩
    ·simp [slM,hpM,e',spO,swT,swH,sw,Ob.sw,V.ren,V.rens]
    ·simp [slM,hpM,e',spO,swT,swH,sw,Ob.sw,V.ren,V.rens,rowA,atomC,stD,hN]
  ·exfalso
   have hp:=o_14c l σ (allp hall)
   rw [mz] at hp
   exact h0 (List.Perm.eq_nil hp.symm)
 ·obtain ⟨M,hM⟩:∃M,M=metQ l σ:=⟨_,rfl⟩
  have hMl:=o_13x o_143 M
  rw [slM,hpM,if_neg m0,if_neg m0]
  rw [←hM] at m0 ⊢
  have hmp:0<M.length:=by omega
  have hmM:M.length≤l.length:=by
   rw [hM]
   have key:∀τ:List Nat,(metQ l τ).length≤τ.length:=by
    intro τ
    induction τ with
    | nil=>simp [metQ]
    | cons j τ ih =>
     have:metQ l (j::τ)=(match l[j]? with | some p=>if p.2=0 then [] else [p] | none=>[])++metQ l τ:=by unfold metQ;exact List.flatMap_cons
     rw [this,List.length_append]
     have h1:(match l[j]? with | some p=>if p.2=0 then [] else [p] | none=>[]:Sp).length≤1:=by
      split
      ·split<;>simp
      ·simp
     simp only [List.length_cons];omega
   exact Nat.le_trans (key σ) hbnd
  simp [spO]
  refine A10 hn ?_;try with_reducible exact tt
  refine ⟨fun i hi hin=>?_,fun hall=>?_⟩
  ·obtain ⟨s1,s2,s3,q,N1,N2,N3,hp,hN,hq,hK,hV⟩:=ent i hi
   have hc:=o_uo q 0 hq (show RS (0:Rat) 100000 from ⟨by decide,by decide⟩)
   have hms:=o_14b l σ i hi
   rw [hp,←hM] at hms
   have hR:(σ++[i]).Nodup∧∀j∈σ++[i],j<l.length:=by
    refine ⟨by rw [List.nodup_append];exact ⟨hnd,by simp,fun a ha b hb e=>by simp at hb;subst hb;exact hin (e▸ha)⟩,fun j hj=>?_⟩
    rcases List.mem_append.1 hj with hj | hj
    ·exact hlt j hj
    ·simp at hj;subst hj;exact hi
   have hl1:(σ++[i]).length≤l.length:=by
    have h2:(σ++[i]).length≤(List.range l.length).length:=hR.1.length_le_of_subset fun j hj=>List.mem_range.2 (hR.2 j hj)
    simpa using h2
   rw [List.length_append,List.length_singleton] at hl1
   have hz0:rcD 0=[natW 0,.bool false,natW 0]:=rfl
   rw [rD_rc,rD_rc,hN] at hc
   rw [rD_rc] at ho
   rw [hz0] at hc ho
   refine A10 (fs hi (fs hn (fs hK hV))) ?_;try with_reducible exact tt
   refine CallS.pu (ho) (R1 (fs hi (fs hn (fs hK hV))) ?_);try with_reducible exact tt
   refine CallS.pu (hc) (R0 ?_);try with_reducible exact tt
   by_cases hq0:q=0
   ·have hc0:cmpQ q 0=0:=Classical.byContradiction fun h=>(o_14v q).1 h hq0
    refine A10 hc0 ?_;try with_reducible exact tt
    have e':metQ l (σ++[i])=M:=by rw [hms];simp [hq0]
    refine ⟨σ++[i],2,2,⟨by omega,by omega,by omega,by omega⟩,hR,by simp;omega,?_,?_⟩
    ·simp [slM,hpM,e',m0,spO,swT,swH,sw,Ob.sw,V.ren,V.rens]
    ·simp [slM,hpM,e',m0,spO,swT,swH,sw,Ob.sw,V.ren,V.rens]
   ·have hc0:¬cmpQ q 0=0:=(o_14v q).2 hq0
    refine A10 (fs hc0 hMl) ?_;try with_reducible exact tt
    have e':metQ l (σ++[i])=M++[((s1,s2,s3),q)]:=by rw [hms];simp [hq0]
    have e2:rowA atomC (M++[((s1,s2,s3),q)])=rowA atomC M++[.d (.int .i64 s1),.d (.int .i64 s2),.d (.bool s3),.d N1,.d N2,.d N3]:=by rw [o_141];simp [rowA,atomC,stD,hN]
    refine ⟨σ++[i],2,6,⟨by omega,by omega,by omega,by omega⟩,hR,by simp;omega,?_,?_⟩
    ·simp [slM,hpM,e',spO,swT,swH,sw,Ob.sw,V.ren,V.rens]
    ·simp [slM,hpM,e',spO,swT,swH,sw,Ob.sw,V.ren,V.rens,←e2]
  ·have hp:=o_14c l σ (allp hall)
   rw [←hM] at hp
   have hMl2:M.length=(atQ l).length:=by rw [hp.length_eq,(o_12v l).length_eq]
   have hso:=o_14t M (by unfold Uq;exact (hp.map _).nodup_iff.2 (uq_nz hu)) hmp (by rw [hp.length_eq];omega) (atQ l) (o_14d l M hu hp)
   have hal:(spD rcD (atQ l)).length=(atQ l).length*6:=o_12e rcD (fun _=>rfl) _
   have htk:(spD rcD (atQ l)).take ((atQ l).length*6)=spD rcD (atQ l):=List.take_of_length_le (by omega)
   rw [hMl2] at hso ⊢
   refine A00 ?_;try with_reducible exact tt
   refine CallS.g [2] hso ?_
   simp
   refine AW.freeze 2 6 ⟨75,rowA atomC (atQ l)⟩ (spD rcD (atQ l)) (by simp) rfl ?_
   simp [frzH,htk]
   refine A10 htk ?_;try with_reducible exact tt
theorem o_14x (l:Sp) (hu:Uq l) (h0:nzQ l≠[]) (h12:(nzQ l).length≤40) (hl:l.length≤1000000) (hr:∀p∈l,RS p.2 100000):Eqn Tryz.prog o_9p [.mp 0] [spO l] (.d (.sl (atQ l).length (spD rcD (atQ l)))) [spO l]:=o_14w l hu h0 hl hr
end
section
open Go.RowKit
def Gr (D B:Nat) (q:Rat):Prop:=∃z:Nat,q*(D:Rat)=(z:Rat)∧z≤B*D
theorem o_14y {D:Nat} (h:0<D):(D:Rat)≠0:=by
 intro e
 have:D=0:=by exact_mod_cast e
 omega
theorem Gr.rs {D B N:Nat} {q:Rat} (hD:0<D) (hB:1≤B) (h:Gr D B q) (hN:size (B*D)≤N):RS q N:=by
 obtain ⟨z,h1,h2⟩:=h
 have hd:=o_14y hD
 have e:q=mkRat (z:Int) D:=by
  rw [Rat.mkRat_eq_div]
  have:((z:Int):Rat)=(z:Rat):=rfl
  rw [this,←h1]
  rw [Rat.mul_div_cancel hd]
 rw [e]
 refine RS.mk' hD ?_ ?_
 ·exact Nat.le_trans (o_oq (by simpa using h2)) hN
 ·exact Nat.le_trans (o_oq (by exact Nat.le_mul_of_pos_left D hB)) hN
theorem Gr.zero (D B:Nat):Gr D B 0:=⟨0,by grind,Nat.zero_le _⟩
theorem Gr.add {D B C:Nat} {x y:Rat} (hx:Gr D B x) (hy:Gr D C y):Gr D (B+C) (x+y):=by
 obtain ⟨z,h1,h2⟩:=hx
 obtain ⟨w,h3,h4⟩:=hy
 refine ⟨z+w,?_,by rw [Nat.add_mul];omega⟩
 have:((z+w:Nat):Rat)=(z:Rat)+(w:Rat):=by simp
 rw [this,←h1,←h3];grind
theorem Gr.mul {D E B C:Nat} {x y:Rat} (hx:Gr D B x) (hy:Gr E C y):Gr (D*E) (B*C) (x*y):=by
 obtain ⟨z,h1,h2⟩:=hx
 obtain ⟨w,h3,h4⟩:=hy
 refine ⟨z*w,?_,?_⟩
 ·have e1:((z*w:Nat):Rat)=(z:Rat)*(w:Rat):=by simp
  have e2:((D*E:Nat):Rat)=(D:Rat)*(E:Rat):=by simp
  rw [e1,e2,←h1,←h3];grind
 ·have:=Nat.mul_le_mul h2 h4
  refine Nat.le_trans this (Nat.le_of_eq ?_)
  rw [Nat.mul_mul_mul_comm]
theorem Gr.le {D B C:Nat} {x:Rat} (h:Gr D B x) (hbc:B≤C):Gr D C x:=by
 obtain ⟨z,h1,h2⟩:=h
 exact ⟨z,h1,Nat.le_trans h2 (Nat.mul_le_mul_right _ hbc)⟩
theorem Gr.one (D:Nat):Gr D 1 1:=⟨D,by grind,by omega⟩
theorem Gr.sub1 {D:Nat} {x:Rat} (h:Gr D 1 x):Gr D 1 (1-x):=by
 obtain ⟨z,h1,h2⟩:=h
 refine ⟨D-z,?_,by omega⟩
 have e1:((D-z:Nat):Rat)=(D:Rat)-(z:Rat):=by
  have:(D:Rat)=((D-z+z:Nat):Rat):=by rw [Nat.sub_add_cancel (by omega)]
  rw [this]
  have e:((D-z+z:Nat):Rat)=((D-z:Nat):Rat)+(z:Rat):=by simp
  rw [e];grind
 rw [e1,←h1];grind
theorem o_14z {k a w:Nat} (h:GoodS k a w):∃G:Nat,0<G∧G≤2^63∧∀x,x≤15→Gr G 1 (chP k a x):=by
 by_cases hk:k=1
 ·subst hk
  have ha:1≤a∧a≤4:=by
   rcases h.1 with ⟨-,h1,h2⟩ | ⟨h1,-⟩ | ⟨h1,-⟩
   ·exact ⟨h1,h2⟩
   ·omega
   ·omega
  refine ⟨(a+1)^15,Nat.pow_pos (by omega),Nat.le_trans (Nat.pow_le_pow_left (show a+1≤5 by omega) 15) (by decide),fun x hx=>?_⟩
  rw [chP,if_pos rfl]
  unfold chM
  have key:∀n,n≤15→∃z:Nat,mkRat (a:Int) (a+1)^n*(((a+1)^n:Nat):Rat)=(z:Rat)∧z≤(a+1)^n:=by
   intro n
   induction n with
   | zero=>intro _;exact ⟨1,by simp,by simp⟩
   | succ n ih =>
    intro hn
    obtain ⟨z,h1,h2⟩:=ih (by omega)
    refine ⟨z*a,?_,by rw [Nat.pow_succ];exact Nat.mul_le_mul h2 (by omega)⟩
    have e1:mkRat (a:Int) (a+1)*((a+1:Nat):Rat)=(a:Rat):=by
     rw [Rat.mkRat_eq_div]
     have:((a:Int):Rat)=(a:Rat):=rfl
     rw [this]
     exact Rat.div_mul_cancel (o_14y (by omega))
    have e2:(((a+1)^(n+1):Nat):Rat)=(((a+1)^n:Nat):Rat)*((a+1:Nat):Rat):=by rw [Nat.pow_succ];simp
    have e3:((z*a:Nat):Rat)=(z:Rat)*(a:Rat):=by simp
    rw [Rat.pow_succ,e2,e3,←h1,←e1];grind
  obtain ⟨z,h1,h2⟩:=key x hx
  refine ⟨z*(a+1)^(15-x),?_,?_⟩
  ·have e1:(((a+1)^15:Nat):Rat)=(((a+1)^x:Nat):Rat)*(((a+1)^(15-x):Nat):Rat):=by
    have:(a+1)^15=(a+1)^x*(a+1)^(15-x):=by rw [←Nat.pow_add];congr 1;omega
    rw [this];simp
   have e2:((z*(a+1)^(15-x):Nat):Rat)=(z:Rat)*(((a+1)^(15-x):Nat):Rat):=by simp
   rw [e1,e2,←h1];grind
  ·rw [Nat.one_mul,show (a+1)^15=(a+1)^x*(a+1)^(15-x) by rw [←Nat.pow_add];congr 1;omega]
   exact Nat.mul_le_mul_right _ h2
 ·refine ⟨2^63,by decide,Nat.le_refl _,fun x hx=>?_⟩
  rw [chP,if_neg hk]
  have he:=o_z1 h hk hx
  generalize expOf k a x=e at *
  refine ⟨2^(63-e),?_,by rw [Nat.one_mul];exact Nat.pow_le_pow_right (by decide) (by omega)⟩
  have e1:mkRat 1 (2^e)*((2^e:Nat):Rat)=1:=by
   rw [Rat.mkRat_eq_div]
   have:=Rat.div_mul_cancel (a:=((1:Int):Rat)) (o_14y (Nat.two_pow_pos e))
   simpa using this
  have e2:((2^63:Nat):Rat)=((2^e:Nat):Rat)*((2^(63-e):Nat):Rat):=by
   have:2^63=2^e*2^(63-e):=by rw [←Nat.pow_add];congr 1;omega
   rw [this];simp
  rw [e2,←Rat.mul_assoc,e1];grind
end
end Go.Proofs.YtabnkmpkcfjkmaaGreatDoor.Am
