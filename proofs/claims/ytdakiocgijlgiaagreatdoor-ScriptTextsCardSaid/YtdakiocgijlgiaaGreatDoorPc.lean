/- Parts of the proof: AmGen, AmX, AmY, AmAll, AmTac, CodeD, WordsM, Nat1, Nat2, Nat3, Nat4, Nat5, Nat6, Rat1, Text1, TxtM, YuM, DivM, Nat7, Txt1, TxtN, Txt2, Txt3, Mul1, Div1, Mul2, Rat2, Txt4, Txt5, DivN, Nat8, Nat9, Nat10, Rat3, RatQ, Rat4, Rat5, Pow1, Tape1, Float1, Flip1, Flip2, Morris1, Pow2, DecM, Chain1, Yu1, YuX, YuW, YuAt, YuAt2, Yu2, Float2, Yu3, Chain2, Chain3, Chain4, Chain5, Chain6, ChainP, Chain7, Chain8, ChainA, ChainM, ChainB, ChainC, ChainD, ChainE, Chain9, ChainF, ThinM, Thin1, Thin2, Thin3, Reg1, BitsM, Bits1, Bits2, Bits3, Reg2, Reg3, Reg4, PackM, Pack1, Pack2, Carr1, Carr2, Carr3, Carr6, AmUn, Cms1, Dec1, Dec2, Dec3, Dec4, Dec5, HashM, Dec6, RtA, RtB, DecT. -/
import Derived.Test.YtdakiocgijlgiaaGreatDoorPb
set_option linter.unusedVariables false
set_option linter.unusedSimpArgs false
set_option maxRecDepth 100000
namespace Go.Proofs.YtdakiocgijlgiaaGreatDoor.Am
section
open Go.RowKit
def obsIs (H:List (Option Ob)) (ρ:Nat→Nat) (dead:List Nat):Nat→List Nat→List Ob→Prop
 | i,n::θ,ob::r=>(i∈dead∨obIs H n ⟨ob.T,V.rens ρ ob.c⟩)∧obsIs H ρ dead (i+1) θ r
 | _,[],[]=>True
 | _,_,_=>False
theorem obsIs.get {H:List (Option Ob)} {ρ:Nat→Nat} {dead:List Nat}:∀{j:Nat} {θ:List Nat} {l:List Ob},obsIs H ρ dead j θ l→θ.length=l.length∧∀i ob,i+j∉dead→l[i]?=some ob→obIs H (θ.getD i 0) ⟨ob.T,V.rens ρ ob.c⟩
 | _,[],[],_=>⟨rfl,by simp⟩
 | _,[],_::_,h=>h.elim
 | _,_::_,[],h=>h.elim
 | j,n::θ,ob::r,h=>by
  obtain ⟨h1,h2⟩:=h
  obtain ⟨h3,h4⟩:=obsIs.get h2
  refine ⟨by simp [h3],fun i o hd hi=>?_⟩
  cases i with
  | zero=>simp at hi hd;subst hi;exact h1.resolve_left hd
  | succ i=>simpa using h4 i o (by rw [show i+(j+1)=i+1+j by omega];exact hd) (by simpa using hi)
def retG (rs:List RV) (θ:List Nat) (X:V) (Hs':List Ob) (dead:List Nat):Exit→List V→List (Option Ob)→Prop
 | .normal,T,H | .ret,T,H=>(∃x,outV T H rs=some x∧Sub1 x (X.ren fun i=>θ.getD i 0))∧obsIs H (fun i=>θ.getD i 0) dead 0 θ Hs'
 | _,_,_=>False
attribute [simp] retG obsIs

def apartB (θ dead:List Nat):Bool:=(List.range θ.length).all fun i=>(List.range θ.length).all fun j=>dead.contains i || dead.contains j || i==j || θ.getD i 0 != θ.getD j 0
theorem o_6u {θ dead:List Nat} (h:apartB θ dead=true):apartN θ dead:=fun i j hi hj li lj he=>by
 have h1:=List.all_eq_true.1 h i (List.mem_range.2 li)
 have h2:=List.all_eq_true.1 h1 j (List.mem_range.2 lj)
 have e1:dead.contains i=false:=by simpa using hi
 have e2:dead.contains j=false:=by simpa using hj
 rw [e1,e2,he] at h2
 simpa using h2

theorem Eqn.gen {P:Program} {f:FuncId} {c:C} {rs:List RV} {nt:Nat} {args:List V} {Hs:List Ob} {X:V} {Hs':List Ob} {dead:List Nat} (θ:List Nat) (hf:fnOf P f=some (c,rs,nt,false)) (hlen:Hs.length≤Hs'.length) (hold:∀n∈dead,n<Hs.length) (hθ:θ.take Hs.length=List.range Hs.length) (hnd:apartB θ dead=true)
  (lowx:X.low Hs'.length=true) (lowo:∀ob∈Hs',V.lowl Hs'.length ob.c=true)
  (h:AW P Hs.length c (retG rs θ X Hs' dead) (args++List.replicate (nt-args.length) .junk) (Hs.map some)):EqnD P f args Hs X Hs' dead:=by
 have hθ':∀i,i<Hs.length→θ.getD i 0=i:=fun i hi=>by
  have h1:(θ.take Hs.length)[i]?=(List.range Hs.length)[i]?:=by rw [hθ]
  rw [List.getElem?_take,if_pos hi,List.getElem?_range hi] at h1
  rw [List.getD_eq_getElem?_getD,h1];rfl
 refine Eqn.of_fn hf hlen hold lowx lowo ?_
 intro code hc m0 m s sat hle htop hL
 refine wp_mono (h code hc m0 m s sat hle htop hL) ?_
 rintro e s' w' ⟨T',H',m',rfl,hq,rest⟩
 refine ⟨T',H',m',rfl,?_,rest⟩
 cases e<;>first
  | exact hq.elim
  | (obtain ⟨hx,ho⟩:=hq
     obtain ⟨h3,h4⟩:=ho.get
     exact ⟨θ,h3,hθ',o_6u hnd,hx,h4⟩)

def obsAt (k:Nat) (H:List (Option Ob)) (ρ:Nat→Nat):List Nat→List Ob→Prop
 | n::θ,ob::r=>(V.lowl k ob.c=true∧H.getD n none=some ⟨ob.T,V.rens ρ ob.c⟩)∧obsAt k H ρ θ r
 | [],[]=>True
 | _,_=>False
attribute [simp] obsAt
theorem o_6v {k:Nat} {H:List (Option Ob)} {ρ:Nat→Nat}:obsAt k H ρ [] []:=trivial
theorem o_6w {k n:Nat} {H:List (Option Ob)} {ρ:Nat→Nat} {θ:List Nat} {ob:Ob} {r:List Ob} (h1:V.lowl k ob.c=true) (h2:H.getD n none=some ⟨ob.T,V.rens ρ ob.c⟩) (h3:obsAt k H ρ θ r):obsAt k H ρ (n::θ) (ob::r):=⟨⟨h1,h2⟩,h3⟩
theorem obsAt.get {k:Nat} {H:List (Option Ob)} {ρ:Nat→Nat}:∀{θ:List Nat} {l:List Ob},obsAt k H ρ θ l→θ.length=l.length∧(∀n∈θ,n<H.length)∧∀i ob,l[i]?=some ob→V.lowl k ob.c=true∧H.getD (θ.getD i 0) none=some ⟨ob.T,V.rens ρ ob.c⟩
 | [],[],_=>⟨rfl,by simp,by simp⟩
 | [],_::_,h=>h.elim
 | _::_,[],h=>h.elim
 | n::θ,ob::r,h=>by
  obtain ⟨h1,h2⟩:=h
  obtain ⟨h3,h5,h4⟩:=obsAt.get h2
  refine ⟨by simp [h3],fun m hm=>?_,fun i o hi=>?_⟩
  ·rcases List.mem_cons.1 hm with rfl | hm
   ·rcases Nat.lt_or_ge m H.length with hlt | hge
    ·exact hlt
    ·have:=h1.2
     rw [List.getD_eq_getElem?_getD,List.getElem?_eq_none hge] at this;cases this
   ·exact h5 m hm
  ·cases i with
   | zero=>simp at hi;subst hi;exact h1
   | succ i=>simpa using h4 i o (by simpa using hi)

theorem CallS.gen {P:Program} {f:FuncId} {args argsC:List V} {H:List (Option Ob)} {K:V→List (Option Ob)→List Nat→List Nat→Prop} {X:V} {Hs Hs':List Ob} {dead:List Nat} (θ:List Nat) (E:EqnD P f argsC Hs X Hs' dead) (hnd:θ.Nodup) (hat:obsAt Hs.length H (nameOf θ H.length) θ Hs)
  (hl:V.lowl Hs.length argsC=true) (hs:Subs args (V.rens (nameOf θ H.length) argsC))
  (h:K (X.ren (nameOf θ H.length)) (killAll (putAll H θ (Hs'.map fun ob=>⟨ob.T,V.rens (nameOf θ H.length) ob.c⟩)) θ dead) [] (θ++(List.range (Hs'.length-Hs.length)).map (H.length + ·))):CallS P f args H K:=by
 obtain ⟨h1,h2,h3⟩:=hat.get
 exact .inl ⟨θ,argsC,Hs,X,Hs',dead,E,h1,hnd,h2,h3,hl,hs,h⟩
theorem AW.loopG {P:Program} {L:Nat} {Q:Exit→List V→List (Option Ob)→Prop} {T:List V} {H:List (Option Ob)} {x:C} {α:Type} (T1:α→List V) (H1:α→List (Option Ob)) (R:α→Prop) (μ:α→Nat) (a0:α) (hL:∀a,R a→L≤(H1 a).length) (hR:R a0)
  (h0:wk (H1 a0).length T (T1 a0)) (h0':wkH (H1 a0).length H (H1 a0))
  (h:∀a,R a→AW P L x (thenQ (fun T' H'=>∃a' i j,(L≤i∧L≤j∧i<H'.length∧j<H'.length)∧R a'∧μ a'<μ a∧wk (H1 a').length (swT i j T') (T1 a')∧wkH (H1 a').length (swH i j H') (H1 a')) Q) (T1 a) (H1 a)):AW P L (.loop x) Q T H:=by
 refine AW.weak (T1:=T1 a0) (H1:=H1 a0) (Weak.of h0 h0') (hL _ hR) ?_
 intro code hc m0 m a sat hle htop hL'
 cases code<;>simp [resolveC] at hc
 rename_i cx
 refine o_64 (fun k a w=>∃z:α,∃m,m.w=w∧k=μ z∧R z∧Sat m a (T1 z) (H1 z)∧m0.le m (· < L)∧L≤(H1 z).length) ?_ (μ a0) a m.w ⟨a0,m,rfl,rfl,hR,sat,hle,hL'⟩
 rintro k a w ⟨z,m,rfl,rfl,hz,sat,hle,hL1⟩
 refine wp_mono (h z hz cx hc m0 m a sat hle htop hL1) ?_
 rintro e a' w' ⟨T',H',m',rfl,hq,sat',hle',hL'⟩
 cases e with
 | normal =>
  obtain ⟨z',i,j,⟨hi,hj,hi',hj'⟩,hz',hμ,hw1,hw2⟩:=hq
  obtain ⟨m1,hm1,s1,l1⟩:=Sat.swap sat' hi' hj' hi hj hle' htop
  obtain ⟨m2,hm2,s2,l2,n2⟩:=Sat.weaken (Weak.of hw1 hw2) s1 l1 htop (hL _ hz')
  exact ⟨μ z',hμ,z',m2,hm2.trans hm1,rfl,hz',s2,l2,n2⟩
 | _=>exact ⟨T',H',m',rfl,hq,sat',hle',hL'⟩
theorem AW.swap {P:Program} {L:Nat} {Q:Exit→List V→List (Option Ob)→Prop} {T:List V} {H:List (Option Ob)} {c:C} (i j:Nat) (hi:i<H.length) (hj:j<H.length) (hLi:L≤i) (hLj:L≤j) (h:AW P L c Q (swT i j T) (swH i j H)):AW P L c Q T H:=by
 intro code hc m0 m a sat hle htop hL
 obtain ⟨m1,hm1,s1,l1⟩:=Sat.swap sat hi hj hLi hLj hle htop
 rw [←hm1]
 exact h code hc m0 m1 a s1 l1 htop (by rw [o_6s];exact hL)

theorem o_6x (θ:Nat→Nat) (l:List D):V.rens θ (l.map .d)=l.map .d:=(o_6i l).2 θ
theorem o_6y (k:Nat) (l:List D):V.lowl k (l.map .d)=true:=V.lowl_mono (Nat.zero_le k) _ (o_6i l).1
end
section
open Go.RowKit
def notDefer (o:Oper):Bool:=match o.op with
 | .defer _=>false
 | .next _ _=>false
 | _=>true
theorem o_6z {o:Oper} (h:notDefer o=true):isNx o=false:=by
 unfold isNx
 split
 ·rename_i e;simp [notDefer,e] at h
 ·rfl
theorem o_70 {o:Oper} (h:notDefer o=true):∀c,o.op≠.defer c:=fun c e=>by simp [notDefer,e] at h

abbrev FR (l:Option Nat):Fence:={ Fence.wide with round:=l }

theorem o_71 {l:Option Nat} {n:Nat} {P:Program} {row:String} {args:Array Value} {w:World} {R:Value→World→Prop} (h:Rows P row args w R):RowsIn (FR l) n P row args w R:=by
 intro c cs _
 obtain ⟨v,w',hR,hs⟩:=h c cs
 exact ⟨v,w',hR,stepsIn_wide.2 hs⟩
theorem o_72 {l:Option Nat} {n:Nat} {P:Program} {f:FuncId} {args:Array Value} {w:World} {R:Ending→World→Prop} (h:Calls P f args w R):CallsIn (FR l) n P f args w R:=callsIn_wide.2 h

theorem o_73 {l:Option Nat} {n:Nat} {P:Program} {o:Oper} {a:Act} {w:World} {K:Act→World→Prop} {Q:Exit→Act→World→Prop} (hd:notDefer o=true) (h:o.wp P a w K Q):o.wpIn (FR l) n P a w K Q:=by
 refine ⟨fun _ _=>trivial,?_⟩
 rw [Oper.semAt_eq _ _ _ (o_70 hd)]
 unfold Oper.wp at h
 generalize (execOp a.eval o).run P w=r at h
 have hdep:(FR l).depth.isSome=true→1≤n:=fun h=>by simp [FR,Fence.wide] at h
 unfold Oper.upon at h
 unfold Oper.uponIn
 split at h
 all_goals first
  | exact h
  | exact ⟨hdep,o_72 h⟩
  | exact ⟨hdep,o_71 h⟩
  | exact h.elim

def Code.calm:Code→Bool
 | .seq a b | .cond _ a b=>Code.calm a&&Code.calm b
 | .block _ a | .loop a | .scope a=>Code.calm a
 | .region _ ops _=>ops.toList.all notDefer
 | _=>true

def AWr (P:Program) (l:Option Nat) (n L:Nat) (c:C) (Q:Exit→List V→List (Option Ob)→Prop) (T:List V) (H:List (Option Ob)):Prop :=
 ∀code,resolveC P code=c→Code.calm code=true→∀(m0 m:Mem) (a:Act),Sat m a T H→m0.le m (· < L)→(∀n,L≤n→m0.ρ n=none)→L≤H.length →
  code.wpIn (FR l) n P (fun e a' w'=>∃T' H',∃m':Mem,m'.w=w'∧Q e T' H'∧Sat m' a' T' H'∧m0.le m' (· < L)∧L≤H'.length) a m.w

section
variable {P:Program} {l:Option Nat} {n L:Nat} {Q:Exit→List V→List (Option Ob)→Prop} {T:List V} {H:List (Option Ob)}
theorem AWr.skip (h:Q .normal T H):AWr P l n L .skip Q T H:=by
 intro code hc _ m0 m a sat hle htop hL
 cases code<;>simp [resolveC] at hc
 ·exact wpIn_skip ⟨T,H,m,rfl,h,sat,hle,hL⟩
 ·exact wpIn_label ⟨T,H,m,rfl,h,sat,hle,hL⟩
theorem AWr.exit {id:Nat} (h:Q (.exit id) T H):AWr P l n L (.exit id) Q T H:=by
 intro code hc _ m0 m a sat hle htop hL
 cases code<;>simp [resolveC] at hc
 subst hc
 exact wpIn_exit ⟨T,H,m,rfl,h,sat,hle,hL⟩
theorem AWr.seq {x y:C} (h:AWr P l n L x (thenQ (AWr P l n L y Q) Q) T H):AWr P l n L (.seq x y) Q T H:=by
 intro code hc hd m0 m a sat hle htop hL
 cases code<;>simp [resolveC] at hc
 rename_i cx cy
 obtain ⟨hx,hy⟩:=hc
 simp only [Code.calm,Bool.and_eq_true] at hd
 refine wpIn_seq (wpIn_mono (h cx hx hd.1 m0 m a sat hle htop hL) ?_)
 rintro e a' w' ⟨T',H',m',rfl,hq,sat',hle',hL'⟩
 cases e with
 | normal=>exact hq cy hy hd.2 m0 m' a' sat' hle' htop hL'
 | _=>exact ⟨T',H',m',rfl,hq,sat',hle',hL'⟩
theorem AWr.cond {c:X} {x y:C} {b:Bool} (hb:c.ev T = .d (.bool b)) (h1:b=true→AWr P l n L x Q T H) (h2:b=false→AWr P l n L y Q T H):AWr P l n L (.cond c x y) Q T H:=by
 intro code hc hd m0 m a sat hle htop hL
 cases code<;>simp [resolveC] at hc
 rename_i cc cx cy
 obtain ⟨hcc,hx,hy⟩:=hc
 simp only [Code.calm,Bool.and_eq_true] at hd
 have hv:a.eval cc = .bool b:=by
  refine V.rep_bool.1 (X.rep' (T:=T) (fun s _=>sat.slots s) ?_)
  rw [hcc];exact hb
 exact wpIn_cond_split hv (fun h=>h1 h cx hx hd.1 m0 m a sat hle htop hL) (fun h=>h2 h cy hy hd.2 m0 m a sat hle htop hL)
theorem AWr.block {id:Nat} {x:C} (h:AWr P l n L x (blockQ id Q) T H):AWr P l n L (.block id x) Q T H:=by
 intro code hc hd m0 m a sat hle htop hL
 cases code<;>simp [resolveC] at hc
 rename_i id' cx
 obtain ⟨rfl,hx⟩:=hc
 refine wpIn_block (wpIn_mono (h cx hx hd m0 m a sat hle htop hL) ?_)
 rintro e a' w' ⟨T',H',m',rfl,hq,sat',hle',hL'⟩
 cases e with
 | exit j =>
  simp only [blockQ] at hq
  simp only [Exit.inBlock]
  split at hq
  ·rename_i hj;rw [if_pos hj];exact ⟨T',H',m',rfl,hq,sat',hle',hL'⟩
  ·rename_i hj;rw [if_neg hj];exact ⟨T',H',m',rfl,hq,sat',hle',hL'⟩
 | _=>exact ⟨T',H',m',rfl,hq,sat',hle',hL'⟩

theorem o_74 {P:Program} {ops:Array Oper} {Q:Exit→Act→World→Prop} (rest:List Oper):∀(os:List Oper) (Ts:Nat→List V) (Hs:Nat→List (Option Ob)) (xs:Nat→V) (es:Nat→E),(∀o∈os,notDefer o=true) →
  (∀i o,os[i]?=some o→StepI P ops o (Ts i) (Hs i) (xs i) (Hs (i+1)) (es i)∧Ts (i+1)=putT (Ts i) o.dst (xs i))→∀(m:Mem) (a:Act),Sat m a (Ts 0) (Hs 0) →
  (∀a' m',Sat m' a' (Ts os.length) (Hs os.length)→m.le m' (· < (Hs 0).length)→(Hs 0).length≤(Hs os.length).length→wpListIn (FR l) n P ops Q rest a' m'.w)→wpListIn (FR l) n P ops Q (os++rest) a m.w
 | [],Ts,Hs,xs,es,hd,h,m,a,sat,hQ=>hQ a m sat (Mem.le.refl _ _) (Nat.le_refl _)
 | o::os,Ts,Hs,xs,es,hd,h,m,a,sat,hQ=>by
  obtain ⟨h1,h2⟩:=h 0 o rfl
  have hlen:(Hs 0).length≤(Hs 1).length:=by
   obtain ⟨_,_,⟨S,_,hok,_⟩ | ⟨_,he,_⟩⟩:=h1
   ·exact hok.len
   ·rw [he];exact Nat.le_refl _
  rw [List.cons_append]
  refine wpListIn_step fun K hK=>?_
  have:=o_5b h1 sat K Q fun v m' sat' hle'=>hK _ _ (by
   rw [←h2] at sat'
   refine o_74 rest os (fun i=>Ts (i+1)) (fun i=>Hs (i+1)) (fun i=>xs (i+1)) (fun i=>es (i+1)) (fun o ho=>hd o (by simp [ho])) (fun i o' ho=>h (i+1) o' (by simpa using ho)) m' _ sat' fun a2 m2 s2 l2 ln=>hQ a2 m2 s2 ?_ (Nat.le_trans hlen ln)
   refine hle'.trans l2 fun n b hb hn=>?_
   rcases Nat.lt_or_ge n (Hs 0).length with h | h
   ·exact h
   ·rw [sat.top n h] at hb;cases hb)
  split
  ·rename_i hw
   rw [if_pos hw] at this
   exact o_73 (hd o (by simp)) this
  ·rename_i hw
   rw [if_neg hw] at this
   exact ⟨fun _ _=>trivial,this⟩

theorem o_75 {ops:Array Oper} {Q:Exit→Act→World→Prop} (rest:List Oper) {os:List Oper} (hd:os.all notDefer=true) {K:List V→List (Option Ob)→Prop} (h:vops P false K (os.map (resolveO P ops)) [] T H) {m0 m:Mem} {a:Act} (sat:Sat m a T H) (hle:m0.le m (· < L)) (htop:∀n,L≤n→m0.ρ n=none) (hL:L≤H.length)
  (hQ:∀T' H' a' m',K T' H'→Sat m' a' T' H'→m0.le m' (· < L)→L≤H'.length→wpListIn (FR l) n P ops Q rest a' m'.w):wpListIn (FR l) n P ops Q (os++rest) a m.w:=by
 obtain ⟨Ts,Hs,xs,es,rfl,rfl,h3,_,h5⟩:=o_52 os [] T H h (fun _ o ho=>o_6z (List.all_eq_true.1 hd o ho))
 refine o_74 rest os Ts Hs xs es (fun o ho=>List.all_eq_true.1 hd o ho) h3 m a sat fun a' m' s' l' ln=>?_
 refine hQ _ _ a' m' h5 s' (hle.trans l' fun n b hb hn=>?_) (Nat.le_trans hL ln)
 rcases Nat.lt_or_ge n L with h | h
 ·exact h
 ·rw [htop n h] at hb;cases hb

theorem AWr.reg {os:List O} (h:vops P false (Q .normal) os [] T H):AWr P l n L (.reg false os) Q T H:=by
 intro code hc hd m0 m a sat hle htop hL
 cases code<;>simp [resolveC] at hc
 rename_i id ops d
 obtain ⟨rfl,rfl⟩:=hc
 refine wpIn_region_list ?_
 rw [←List.append_nil ops.toList]
 exact o_75 [] hd h sat hle htop hL fun T' H' a' m' hq s' l' ln=>⟨_,_,m',rfl,hq,s',l',ln⟩
end

structure Off (m m':Mem):Prop where
 ρ:m'.ρ=m.ρ
 I:m'.I=m.I
 w:∀b,m.I b→m'.w.heap[b]?=m.w.heap[b]?
 s:∀n b,m.ρ n=some b→m'.w.heap[b]?=m.w.heap[b]?
theorem Off.shape {m m':Mem} (h:Off m m') (n b:Nat) (k:m.ρ n=some b):m'.w.shape? b=m.w.shape? b:=by unfold World.shape?;rw [h.s n b k]
mutual
theorem V.rep_off {m m':Mem} (h:Off m m'):∀(x:V) (v:Value),V.rep m x v→V.rep m' x v
 | .d x,v,k=>by unfold V.rep at k ⊢;exact D.rep_mono (fun b hb=>h.I▸hb) h.w x v k
 | .agg l,v,k=>by unfold V.rep at k ⊢;obtain ⟨vs,h1,h0,h2⟩:=k;exact ⟨vs,h1,h0,V.reps_off h l vs h2⟩
 | .tup l,v,k=>by unfold V.rep at k ⊢;obtain ⟨vs,h1,h2⟩:=k;exact ⟨vs,h1,V.reps_off h l vs h2⟩
 | .p n off,v,k=>by unfold V.rep at k ⊢;rw [h.ρ];exact k
 | .row n off len,v,k=>by unfold V.rep at k ⊢;rw [h.ρ];exact k
 | .own n s len,v,k=>by
  unfold V.rep at k ⊢
  obtain ⟨b,t,z,cap,h1,h2,h3⟩:=k
  exact ⟨b,t,z,cap,by rw [h.ρ];exact h1,by rw [h.shape n b h1];exact h2,h3⟩
 | .mp n,v,k=>by unfold V.rep at k ⊢;rw [h.ρ];exact k
 | .ch n,v,k=>by unfold V.rep at k ⊢;rw [h.ρ];exact k
 | .fn f l,v,k=>by unfold V.rep at k ⊢;obtain ⟨vs,h1,h2⟩:=k;exact ⟨vs,h1,V.reps_off h l vs h2⟩
 | .fb f l,v,k=>by unfold V.rep at k ⊢;obtain ⟨vs,h1,h2⟩:=k;exact ⟨vs,h1,V.reps_off h l vs h2⟩
 | .junk,v,k=>by unfold V.rep;trivial
theorem V.reps_off {m m':Mem} (h:Off m m'):∀(l:List V) (vs:List Value),V.reps m l vs→V.reps m' l vs
 | [],vs,k=>by unfold V.reps at k ⊢;exact k
 | x::l,vs,k=>by
  unfold V.reps at k ⊢
  obtain ⟨v,r,h1,h2,h3⟩:=k
  exact ⟨v,r,h1,V.rep_off h x v h2,V.reps_off h l r h3⟩
end
theorem Mem.obj_off {m m':Mem} (h:Off m m') {n:Nat} {o:Ob} (k:m.obj n o):m'.obj n o:=by
 obtain ⟨b,vs,more,h1,h2,h3,h4,h5⟩:=k
 exact ⟨b,vs,more,by rw [h.ρ];exact h1,by rw [h.s n b h1];exact h2,h3,V.reps_off h _ _ h4,by rw [h.I];exact h5⟩
theorem Sat.off {m m':Mem} (h:Off m m') {a:Act} {T:List V} {H:List (Option Ob)} (sat:Sat m a T H) (hsz:m.w.heap.size≤m'.w.heap.size):Sat m' a T H:=by
 refine ⟨⟨fun b hb=>Nat.lt_of_lt_of_le (sat.base.imm b (h.I▸hb)) hsz,fun n b hb=>Nat.lt_of_lt_of_le (sat.base.dom n b (h.ρ▸hb)) hsz,sat.base.tabs.mono (fun b hb=>h.I▸hb) h.w⟩,fun s=>V.rep_off h _ _ (sat.slots s),fun n ob hn=>Mem.obj_off h (sat.obj n ob hn),?_,?_,sat.size,sat.defers⟩
 ·rw [h.ρ];exact sat.inj
 ·rw [h.ρ];exact sat.top

abbrev Mem.at (m:Mem) (w:World):Mem:=⟨m.ρ,m.I,w⟩
structure Mem.loose (m:Mem) (l:Nat):Prop where
 lt:l<m.w.heap.size
 ρ:∀n,m.ρ n≠some l
 I:¬m.I l
theorem Mem.loose.keep {m m':Mem} {M:Nat→Prop} {l:Nat} (h:m.loose l) (hle:m.le m' M):m'.loose l∧m'.w.heap[l]?=m.w.heap[l]?:=by
 refine ⟨⟨Nat.lt_of_lt_of_le h.lt hle.size,fun n hn=>?_,fun hI=>?_⟩,hle.block l h.lt fun n _ hn=>h.ρ n hn⟩
 ·rcases hle.newρ n l hn with k | k | ⟨j,_,k⟩
  ·exact h.ρ n k
  ·have:=h.lt;omega
  ·exact h.ρ j k
 ·rcases hle.newI l hI with k | k | ⟨j,_,k⟩
  ·exact h.I k
  ·have:=h.lt;omega
  ·exact h.ρ j k
theorem Mem.loose.put {m:Mem} {l:Nat} (h:m.loose l) (o:Obj):(m.at (m.w.putObj l o)).loose l:=⟨by simpa using h.lt,h.ρ,h.I⟩
theorem Mem.loose.sat {m:Mem} {l:Nat} (h:m.loose l) (o:Obj) {a:Act} {T:List V} {H:List (Option Ob)} (sat:Sat m a T H):Sat (m.at (m.w.putObj l o)) a T H :=
 Sat.off (m:=m) (m':=m.at (m.w.putObj l o)) ⟨rfl,rfl,fun b hb=>World.putObj_heap_other fun e=>h.I (e▸hb),fun n b hb=>World.putObj_heap_other fun e=>h.ρ n (e▸hb)⟩ sat (by simp)
theorem Mem.loose.rep {m:Mem} {l:Nat} (h:m.loose l) (o:Obj) {x:V} {v:Value} (k:x.rep m v):x.rep (m.at (m.w.putObj l o)) v :=
 V.rep_off (m:=m) (m':=m.at (m.w.putObj l o)) ⟨rfl,rfl,fun b hb=>World.putObj_heap_other fun e=>h.I (e▸hb),fun n b hb=>World.putObj_heap_other fun e=>h.ρ n (e▸hb)⟩ x v k
theorem o_76 {w:World} {l b:Nat} {o o':Obj} (h:w.heap[l]?=some o) (h0:∀c t f,o≠.cells c t f) (h1:∀c t f,o'≠.cells c t f):(w.putObj l o').shape? b=w.shape? b:=by
 by_cases e:b=l
 ·subst e
  have hlt:b<w.heap.size:=(Array.getElem?_eq_some_iff.1 h).1
  unfold World.shape?
  rw [World.putObj_heap_same hlt,h]
  split<;>split<;>simp_all
 ·unfold World.shape?;rw [World.putObj_heap_other e]
theorem Mem.loose.le {m m':Mem} {M:Nat→Prop} {l:Nat} (h:m.loose l) (hle:m.le m' M) {o0 o o':Obj} (hl:m.w.heap[l]?=some o0) (hn:∀c t f,o0≠.cells c t f) (h1:∀c t f,o≠.cells c t f) (h2:∀c t f,o'≠.cells c t f) (hoo:o=o'):(m.at (m.w.putObj l o)).le (m'.at (m'.w.putObj l o')) M:=by
 subst hoo
 obtain ⟨hk,hk2⟩:=h.keep hle
 refine ⟨hle.ρ,hle.I,hle.os,hle.tape,hle.output,hle.drawn,by simpa using hle.size,fun b hb hm=>?_,fun b hb=>?_,fun b hb=>?_,fun b hb=>?_,fun n b hb=>?_⟩
 ·by_cases e:b=l
  ·subst e
   rw [World.putObj_heap_same h.lt,World.putObj_heap_same hk.lt]
  ·rw [World.putObj_heap_other e,World.putObj_heap_other e];exact hle.block b (by simpa using hb) hm
 ·rw [o_76 hl hn h1,o_76 (hk2.trans hl) hn h2];exact hle.shape b (by simpa using hb)
 ·have:b≠l:=fun e=>h.I (e▸hb)
  rw [World.putObj_heap_other this,World.putObj_heap_other this];exact hle.imm b hb
 ·have:=hle.newI b hb;simpa using this
 ·have:=hle.newρ n b hb;simpa using this
end
section
open Go.RowKit
structure Beside (D:List Deferred) (a a':Act):Prop where
 tmps:a.tmps=a'.tmps
 defers:a'.defers=a.defers++D
theorem Beside.put {D:List Deferred} {a a':Act} (h:Beside D a a') (d:Option Tmp) (v:Value):Beside D (a.put d v) (a'.put d v):=by
 cases d with
 | none=>exact h
 | some d=>exact ⟨by simp [Act.put,h.tmps],by simp [Act.put,h.defers]⟩
abbrev noQ:Exit→List V→List (Option Ob)→Prop:=fun _ _ _=>False
theorem AW.then {P:Program} {n L:Nat} {x y:Code} {c:C} {R:Exit→Act→World→Prop} {K:List V→List (Option Ob)→Prop} {T:List V} {H:List (Option Ob)} (hc:resolveC P x=c) (hx:AW P L c (thenQ K noQ) T H) {m0 m:Mem} {a:Act} (sat:Sat m a T H) (hle:m0.le m (· < L)) (htop:∀n,L≤n→m0.ρ n=none) (hL:L≤H.length)
  (hy:∀T' H' m' a',K T' H'→Sat m' a' T' H'→m0.le m' (· < L)→L≤H'.length→y.wpIn Fence.wide n P R a' m'.w):(Code.seq x y).wpIn Fence.wide n P R a m.w:=by
 refine wpIn_seq (wpIn_mono (wpIn_wide.2 (hx x hc m0 m a sat hle htop hL)) ?_)
 rintro e a' w' ⟨T',H',m',rfl,hq,sat',hle',hL'⟩
 cases e with
 | normal=>exact hy T' H' m' a' hq sat' hle' hL'
 | _=>exact hq.elim

theorem Mem.le.far {m m':Mem} {M:Nat→Prop} (h:m.le m' M) (hb:m.base) {l:Nat} (hl:m.w.heap.size≤l) (o:Obj):m.le (m'.at (m'.w.putObj l o)) M:=by
 have e:∀b,b<m.w.heap.size→(m'.w.putObj l o).heap[b]?=m'.w.heap[b]?:=fun b hb=>World.putObj_heap_other (by omega)
 refine ⟨h.ρ,h.I,h.os,h.tape,h.output,h.drawn,by simpa using h.size,fun b hb hn=>by rw [e b hb];exact h.block b hb hn,fun b hb=>?_,fun b hI=>by rw [e b (hb.imm b hI)];exact h.imm b hI,h.newI,h.newρ⟩
 have:=h.shape b hb
 unfold World.shape? at this ⊢
 rw [e b hb];exact this
abbrev Mem.cut (m:Mem) (S:Nat→Bool):Mem:=⟨fun n=>if S n then m.ρ n else none,m.I,m.w⟩
end
section
section
variable {P:Program} {f:FuncId} {args argsC:List V} {H:List (Option Ob)} {K:V→List (Option Ob)→List Nat→List Nat→Prop} {X:V}
theorem CallS.n1 {ob':Ob} (E:Eqn P f argsC [] (.p 0 0) [ob']) (h:K (.p H.length 0) (H++[some ob']) [] [H.length]) (hO':plainL ob'.c:=by exact ⟨rfl,fun _=>rfl⟩)
  (hl:V.lowl 0 argsC=true:=by rfl) (hr:∀θ,V.rens θ argsC=argsC:=by exact fun _=>rfl) (hs:Subs args argsC:=by exact Subs.refl _):CallS P f args H K:=CallS.new1 E hO' hl hr hs h
theorem CallS.g {Hs Hs':List Ob} {dead:List Nat} (θ:List Nat) (E:EqnD P f argsC Hs X Hs' dead)
  (h:K (X.ren (nameOf θ H.length)) (killAll (putAll H θ (Hs'.map fun ob=>⟨ob.T,V.rens (nameOf θ H.length) ob.c⟩)) θ dead) [] (θ++(List.range (Hs'.length-Hs.length)).map (H.length + ·)))
  (hnd:θ.Nodup:=by decide) (hat:obsAt Hs.length H (nameOf θ H.length) θ Hs:=by first | ((repeat (first | exact o_6v | refine o_6w rfl rfl ?_));done) | (simp;done))
  (hl:V.lowl Hs.length argsC=true:=by first | rfl | (simp;done)) (hs:args=V.rens (nameOf θ H.length) argsC:=by first | rfl | (simp;done)):CallS P f args H K:=CallS.gen θ E hnd hat hl (Subs.of hs) h
end
attribute [simp] dstV
@[simp] theorem o_77:IntKind.u8.bits=8:=rfl
@[simp] theorem o_78:IntKind.u16.bits=16:=rfl
@[simp] theorem o_79:IntKind.u32.bits=32:=rfl
@[simp] theorem o_7a:IntKind.u64.bits=64:=rfl
@[simp] theorem o_7b:IntKind.i64.bits=64:=rfl
end
section
open Go.RowKit
inductive Tri:Prop→Prop
 | tt:Tri True
 | any (p:Prop):Tri p
structure Hid (p:Prop):Prop where
 v:p
theorem tt:True:=True.intro
theorem fs {a b:Prop} (x:a) (y:b):a∧b:=And.intro x y
theorem G0 {q p:Prop} (hp:p) (h:(Hid p→q)∧Tri p:=by
 constructor
 ·intro hp
  repeat (first | refine AW.seq ?_ | refine AW.block ?_ | (refine AW.reg mix ?_;(simp -implicitDefEqProofs;try simp (disch:=omega) only [w64,wu64])) | (refine need.of (by first | omega | kernel_rfl) ?_) | (refine AW.fin ?_;try (simp -implicitDefEqProofs;try simp (disch:=omega) only [w64,wu64])))
  try exact hp.v
 ·with_reducible first | exact Tri.tt | exact Tri.any _):q:=(h).1 ⟨hp⟩
theorem R0 {q p:Prop} (hp:p) (h:(Hid p→q)∧Tri p:=by
 constructor
 ·intro hp
  try (simp -implicitDefEqProofs;try simp (disch:=omega) only [w64,wu64])
  repeat (first | refine AW.seq ?_ | refine AW.block ?_ | (refine AW.reg mix ?_;(simp -implicitDefEqProofs;try simp (disch:=omega) only [w64,wu64])) | (refine need.of (by first | omega | kernel_rfl) ?_) | (refine AW.fin ?_;try (simp -implicitDefEqProofs;try simp (disch:=omega) only [w64,wu64])))
  try exact hp.v
 ·with_reducible first | exact Tri.tt | exact Tri.any _):q:=(h).1 ⟨hp⟩
theorem A00 {q p:Prop} (hp:p) (h:(Hid p→q)∧Tri p:=by
 constructor
 ·intro hp
  repeat (first | refine AW.seq ?_ | refine AW.block ?_ | (refine AW.reg mix ?_;(simp -implicitDefEqProofs;try simp (disch:=omega) only [w64,wu64])) | (refine need.of (by first | omega | kernel_rfl) ?_) | (refine AW.fin ?_;try (simp -implicitDefEqProofs;try simp (disch:=omega) only [w64,wu64])) | (refine AW.cond rfl ?_ (fun _=>?_);focus (intro h;simp -implicitDefEqProofs at h;done)) | (refine AW.cond rfl (fun _=>?_) ?_;rotate_left;focus (intro h;simp -implicitDefEqProofs at h;done)))
  try exact hp.v
 ·with_reducible first | exact Tri.tt | exact Tri.any _):q:=(h).1 ⟨hp⟩
theorem A01 {q p c1:Prop} (k1:c1) (hp:p) (h:c1→(Hid p→q)∧Tri p:=by
 intro c1
 constructor
 ·intro hp
  repeat (first | refine AW.seq ?_ | refine AW.block ?_ | (refine AW.reg mix ?_;(simp -implicitDefEqProofs;try simp (disch:=omega) only [w64,wu64])) | (refine need.of (by first | omega | kernel_rfl) ?_) | (refine AW.fin ?_;try (simp -implicitDefEqProofs;try simp (disch:=omega) only [w64,wu64])) | (refine AW.cond rfl ?_ (fun _=>?_);focus (intro h;simp -implicitDefEqProofs at h;done)) | (refine AW.cond rfl (fun _=>?_) ?_;rotate_left;focus (intro h;simp -implicitDefEqProofs at h;done)) | (refine CallS.pu c1 ?_;try (simp -implicitDefEqProofs;try simp (disch:=omega) only [w64,wu64])) | refine Exists.intro _ (And.intro c1 ?_))
  try exact hp.v
 ·with_reducible first | exact Tri.tt | exact Tri.any _):q:=(h k1).1 ⟨hp⟩
theorem A02 {q p c1 c2:Prop} (k1:c1) (k2:c2) (hp:p) (h:c1→c2→(Hid p→q)∧Tri p:=by
 intro c1 c2
 constructor
 ·intro hp
  repeat (first | refine AW.seq ?_ | refine AW.block ?_ | (refine AW.reg mix ?_;(simp -implicitDefEqProofs;try simp (disch:=omega) only [w64,wu64])) | (refine need.of (by first | omega | kernel_rfl) ?_) | (refine AW.fin ?_;try (simp -implicitDefEqProofs;try simp (disch:=omega) only [w64,wu64])) | (refine AW.cond rfl ?_ (fun _=>?_);focus (intro h;simp -implicitDefEqProofs at h;done)) | (refine AW.cond rfl (fun _=>?_) ?_;rotate_left;focus (intro h;simp -implicitDefEqProofs at h;done)) | (refine CallS.pu c1 ?_;try (simp -implicitDefEqProofs;try simp (disch:=omega) only [w64,wu64])) | refine Exists.intro _ (And.intro c1 ?_) | (refine CallS.pu c2 ?_;try (simp -implicitDefEqProofs;try simp (disch:=omega) only [w64,wu64])) | refine Exists.intro _ (And.intro c2 ?_))
  try exact hp.v
 ·with_reducible first | exact Tri.tt | exact Tri.any _):q:=(h k1 k2).1 ⟨hp⟩
theorem A03 {q p c1 c2 c3:Prop} (k1:c1) (k2:c2) (k3:c3) (hp:p) (h:c1→c2→c3→(Hid p→q)∧Tri p:=by
 intro c1 c2 c3
 constructor
 ·intro hp
  repeat (first | refine AW.seq ?_ | refine AW.block ?_ | (refine AW.reg mix ?_;(simp -implicitDefEqProofs;try simp (disch:=omega) only [w64,wu64])) | (refine need.of (by first | omega | kernel_rfl) ?_) | (refine AW.fin ?_;try (simp -implicitDefEqProofs;try simp (disch:=omega) only [w64,wu64])) | (refine AW.cond rfl ?_ (fun _=>?_);focus (intro h;simp -implicitDefEqProofs at h;done)) | (refine AW.cond rfl (fun _=>?_) ?_;rotate_left;focus (intro h;simp -implicitDefEqProofs at h;done)) | (refine CallS.pu c1 ?_;try (simp -implicitDefEqProofs;try simp (disch:=omega) only [w64,wu64])) | refine Exists.intro _ (And.intro c1 ?_) | (refine CallS.pu c2 ?_;try (simp -implicitDefEqProofs;try simp (disch:=omega) only [w64,wu64])) | refine Exists.intro _ (And.intro c2 ?_) | (refine CallS.pu c3 ?_;try (simp -implicitDefEqProofs;try simp (disch:=omega) only [w64,wu64])) | refine Exists.intro _ (And.intro c3 ?_))
  try exact hp.v
 ·with_reducible first | exact Tri.tt | exact Tri.any _):q:=(h k1 k2 k3).1 ⟨hp⟩
theorem A04 {q p c1 c2 c3 c4:Prop} (k1:c1) (k2:c2) (k3:c3) (k4:c4) (hp:p) (h:c1→c2→c3→c4→(Hid p→q)∧Tri p:=by
 intro c1 c2 c3 c4
 constructor
 ·intro hp
  repeat (first | refine AW.seq ?_ | refine AW.block ?_ | (refine AW.reg mix ?_;(simp -implicitDefEqProofs;try simp (disch:=omega) only [w64,wu64])) | (refine need.of (by first | omega | kernel_rfl) ?_) | (refine AW.fin ?_;try (simp -implicitDefEqProofs;try simp (disch:=omega) only [w64,wu64])) | (refine AW.cond rfl ?_ (fun _=>?_);focus (intro h;simp -implicitDefEqProofs at h;done)) | (refine AW.cond rfl (fun _=>?_) ?_;rotate_left;focus (intro h;simp -implicitDefEqProofs at h;done)) | (refine CallS.pu c1 ?_;try (simp -implicitDefEqProofs;try simp (disch:=omega) only [w64,wu64])) | refine Exists.intro _ (And.intro c1 ?_) | (refine CallS.pu c2 ?_;try (simp -implicitDefEqProofs;try simp (disch:=omega) only [w64,wu64])) | refine Exists.intro _ (And.intro c2 ?_) | (refine CallS.pu c3 ?_;try (simp -implicitDefEqProofs;try simp (disch:=omega) only [w64,wu64])) | refine Exists.intro _ (And.intro c3 ?_) | (refine CallS.pu c4 ?_;try (simp -implicitDefEqProofs;try simp (disch:=omega) only [w64,wu64])) | refine Exists.intro _ (And.intro c4 ?_))
  try exact hp.v
 ·with_reducible first | exact Tri.tt | exact Tri.any _):q:=(h k1 k2 k3 k4).1 ⟨hp⟩
theorem G1 {q f1:Prop} {p:f1→Prop} (f:f1) (hp:(p f)) (h:∀f1:f1,(Hid (p f1)→q)∧Tri (p f1):=by
 intro f1
 constructor
 ·intro hp
  repeat (first | refine AW.seq ?_ | refine AW.block ?_ | (refine AW.reg mix ?_;(simp -implicitDefEqProofs [f1];try simp (disch:=omega) only [w64,wu64])) | (refine need.of (by first | omega | kernel_rfl) ?_) | (refine AW.fin ?_;try (simp -implicitDefEqProofs [f1];try simp (disch:=omega) only [w64,wu64])))
  try exact hp.v
 ·with_reducible first | exact Tri.tt | exact Tri.any _):q:=(h f).1 ⟨hp⟩
theorem R1 {q f1:Prop} {p:f1→Prop} (f:f1) (hp:(p f)) (h:∀f1:f1,(Hid (p f1)→q)∧Tri (p f1):=by
 intro f1
 constructor
 ·intro hp
  try (simp -implicitDefEqProofs [f1];try simp (disch:=omega) only [w64,wu64])
  repeat (first | refine AW.seq ?_ | refine AW.block ?_ | (refine AW.reg mix ?_;(simp -implicitDefEqProofs [f1];try simp (disch:=omega) only [w64,wu64])) | (refine need.of (by first | omega | kernel_rfl) ?_) | (refine AW.fin ?_;try (simp -implicitDefEqProofs [f1];try simp (disch:=omega) only [w64,wu64])))
  try exact hp.v
 ·with_reducible first | exact Tri.tt | exact Tri.any _):q:=(h f).1 ⟨hp⟩
theorem A10 {q f1:Prop} {p:f1→Prop} (f:f1) (hp:(p f)) (h:∀f1:f1,(Hid (p f1)→q)∧Tri (p f1):=by
 intro f1
 constructor
 ·intro hp
  repeat (first | refine AW.seq ?_ | refine AW.block ?_ | (refine AW.reg mix ?_;(simp -implicitDefEqProofs [f1];try simp (disch:=omega) only [w64,wu64])) | (refine need.of (by first | omega | kernel_rfl) ?_) | (refine AW.fin ?_;try (simp -implicitDefEqProofs [f1];try simp (disch:=omega) only [w64,wu64])) | (refine AW.cond rfl ?_ (fun _=>?_);focus (intro h;simp -implicitDefEqProofs [f1] at h;done)) | (refine AW.cond rfl (fun _=>?_) ?_;rotate_left;focus (intro h;simp -implicitDefEqProofs [f1] at h;done)))
  try exact hp.v
 ·with_reducible first | exact Tri.tt | exact Tri.any _):q:=(h f).1 ⟨hp⟩
theorem A11 {q f1 c1:Prop} {p:f1→Prop} (f:f1) (k1:c1) (hp:(p f)) (h:∀f1:f1,c1→(Hid (p f1)→q)∧Tri (p f1):=by
 intro f1 c1
 constructor
 ·intro hp
  repeat (first | refine AW.seq ?_ | refine AW.block ?_ | (refine AW.reg mix ?_;(simp -implicitDefEqProofs [f1];try simp (disch:=omega) only [w64,wu64])) | (refine need.of (by first | omega | kernel_rfl) ?_) | (refine AW.fin ?_;try (simp -implicitDefEqProofs [f1];try simp (disch:=omega) only [w64,wu64])) | (refine AW.cond rfl ?_ (fun _=>?_);focus (intro h;simp -implicitDefEqProofs [f1] at h;done)) | (refine AW.cond rfl (fun _=>?_) ?_;rotate_left;focus (intro h;simp -implicitDefEqProofs [f1] at h;done)) | (refine CallS.pu c1 ?_;try (simp -implicitDefEqProofs [f1];try simp (disch:=omega) only [w64,wu64])) | refine Exists.intro _ (And.intro c1 ?_))
  try exact hp.v
 ·with_reducible first | exact Tri.tt | exact Tri.any _):q:=(h f k1).1 ⟨hp⟩
theorem A12 {q f1 c1 c2:Prop} {p:f1→Prop} (f:f1) (k1:c1) (k2:c2) (hp:(p f)) (h:∀f1:f1,c1→c2→(Hid (p f1)→q)∧Tri (p f1):=by
 intro f1 c1 c2
 constructor
 ·intro hp
  repeat (first | refine AW.seq ?_ | refine AW.block ?_ | (refine AW.reg mix ?_;(simp -implicitDefEqProofs [f1];try simp (disch:=omega) only [w64,wu64])) | (refine need.of (by first | omega | kernel_rfl) ?_) | (refine AW.fin ?_;try (simp -implicitDefEqProofs [f1];try simp (disch:=omega) only [w64,wu64])) | (refine AW.cond rfl ?_ (fun _=>?_);focus (intro h;simp -implicitDefEqProofs [f1] at h;done)) | (refine AW.cond rfl (fun _=>?_) ?_;rotate_left;focus (intro h;simp -implicitDefEqProofs [f1] at h;done)) | (refine CallS.pu c1 ?_;try (simp -implicitDefEqProofs [f1];try simp (disch:=omega) only [w64,wu64])) | refine Exists.intro _ (And.intro c1 ?_) | (refine CallS.pu c2 ?_;try (simp -implicitDefEqProofs [f1];try simp (disch:=omega) only [w64,wu64])) | refine Exists.intro _ (And.intro c2 ?_))
  try exact hp.v
 ·with_reducible first | exact Tri.tt | exact Tri.any _):q:=(h f k1 k2).1 ⟨hp⟩
theorem A13 {q f1 c1 c2 c3:Prop} {p:f1→Prop} (f:f1) (k1:c1) (k2:c2) (k3:c3) (hp:(p f)) (h:∀f1:f1,c1→c2→c3→(Hid (p f1)→q)∧Tri (p f1):=by
 intro f1 c1 c2 c3
 constructor
 ·intro hp
  repeat (first | refine AW.seq ?_ | refine AW.block ?_ | (refine AW.reg mix ?_;(simp -implicitDefEqProofs [f1];try simp (disch:=omega) only [w64,wu64])) | (refine need.of (by first | omega | kernel_rfl) ?_) | (refine AW.fin ?_;try (simp -implicitDefEqProofs [f1];try simp (disch:=omega) only [w64,wu64])) | (refine AW.cond rfl ?_ (fun _=>?_);focus (intro h;simp -implicitDefEqProofs [f1] at h;done)) | (refine AW.cond rfl (fun _=>?_) ?_;rotate_left;focus (intro h;simp -implicitDefEqProofs [f1] at h;done)) | (refine CallS.pu c1 ?_;try (simp -implicitDefEqProofs [f1];try simp (disch:=omega) only [w64,wu64])) | refine Exists.intro _ (And.intro c1 ?_) | (refine CallS.pu c2 ?_;try (simp -implicitDefEqProofs [f1];try simp (disch:=omega) only [w64,wu64])) | refine Exists.intro _ (And.intro c2 ?_) | (refine CallS.pu c3 ?_;try (simp -implicitDefEqProofs [f1];try simp (disch:=omega) only [w64,wu64])) | refine Exists.intro _ (And.intro c3 ?_))
  try exact hp.v
 ·with_reducible first | exact Tri.tt | exact Tri.any _):q:=(h f k1 k2 k3).1 ⟨hp⟩
theorem A14 {q f1 c1 c2 c3 c4:Prop} {p:f1→Prop} (f:f1) (k1:c1) (k2:c2) (k3:c3) (k4:c4) (hp:(p f)) (h:∀f1:f1,c1→c2→c3→c4→(Hid (p f1)→q)∧Tri (p f1):=by
 intro f1 c1 c2 c3 c4
 constructor
 ·intro hp
  repeat (first | refine AW.seq ?_ | refine AW.block ?_ | (refine AW.reg mix ?_;(simp -implicitDefEqProofs [f1];try simp (disch:=omega) only [w64,wu64])) | (refine need.of (by first | omega | kernel_rfl) ?_) | (refine AW.fin ?_;try (simp -implicitDefEqProofs [f1];try simp (disch:=omega) only [w64,wu64])) | (refine AW.cond rfl ?_ (fun _=>?_);focus (intro h;simp -implicitDefEqProofs [f1] at h;done)) | (refine AW.cond rfl (fun _=>?_) ?_;rotate_left;focus (intro h;simp -implicitDefEqProofs [f1] at h;done)) | (refine CallS.pu c1 ?_;try (simp -implicitDefEqProofs [f1];try simp (disch:=omega) only [w64,wu64])) | refine Exists.intro _ (And.intro c1 ?_) | (refine CallS.pu c2 ?_;try (simp -implicitDefEqProofs [f1];try simp (disch:=omega) only [w64,wu64])) | refine Exists.intro _ (And.intro c2 ?_) | (refine CallS.pu c3 ?_;try (simp -implicitDefEqProofs [f1];try simp (disch:=omega) only [w64,wu64])) | refine Exists.intro _ (And.intro c3 ?_) | (refine CallS.pu c4 ?_;try (simp -implicitDefEqProofs [f1];try simp (disch:=omega) only [w64,wu64])) | refine Exists.intro _ (And.intro c4 ?_))
  try exact hp.v
 ·with_reducible first | exact Tri.tt | exact Tri.any _):q:=(h f k1 k2 k3 k4).1 ⟨hp⟩
theorem A16 {q f1 c1 c2 c3 c4 c5 c6:Prop} {p:f1→Prop} (f:f1) (k1:c1) (k2:c2) (k3:c3) (k4:c4) (k5:c5) (k6:c6) (hp:(p f)) (h:∀f1:f1,c1→c2→c3→c4→c5→c6→(Hid (p f1)→q)∧Tri (p f1):=by
 intro f1 c1 c2 c3 c4 c5 c6
 constructor
 ·intro hp
  repeat (first | refine AW.seq ?_ | refine AW.block ?_ | (refine AW.reg mix ?_;(simp -implicitDefEqProofs [f1];try simp (disch:=omega) only [w64,wu64])) | (refine need.of (by first | omega | kernel_rfl) ?_) | (refine AW.fin ?_;try (simp -implicitDefEqProofs [f1];try simp (disch:=omega) only [w64,wu64])) | (refine AW.cond rfl ?_ (fun _=>?_);focus (intro h;simp -implicitDefEqProofs [f1] at h;done)) | (refine AW.cond rfl (fun _=>?_) ?_;rotate_left;focus (intro h;simp -implicitDefEqProofs [f1] at h;done)) | (refine CallS.pu c1 ?_;try (simp -implicitDefEqProofs [f1];try simp (disch:=omega) only [w64,wu64])) | refine Exists.intro _ (And.intro c1 ?_) | (refine CallS.pu c2 ?_;try (simp -implicitDefEqProofs [f1];try simp (disch:=omega) only [w64,wu64])) | refine Exists.intro _ (And.intro c2 ?_) | (refine CallS.pu c3 ?_;try (simp -implicitDefEqProofs [f1];try simp (disch:=omega) only [w64,wu64])) | refine Exists.intro _ (And.intro c3 ?_) | (refine CallS.pu c4 ?_;try (simp -implicitDefEqProofs [f1];try simp (disch:=omega) only [w64,wu64])) | refine Exists.intro _ (And.intro c4 ?_) | (refine CallS.pu c5 ?_;try (simp -implicitDefEqProofs [f1];try simp (disch:=omega) only [w64,wu64])) | refine Exists.intro _ (And.intro c5 ?_) | (refine CallS.pu c6 ?_;try (simp -implicitDefEqProofs [f1];try simp (disch:=omega) only [w64,wu64])) | refine Exists.intro _ (And.intro c6 ?_))
  try exact hp.v
 ·with_reducible first | exact Tri.tt | exact Tri.any _):q:=(h f k1 k2 k3 k4 k5 k6).1 ⟨hp⟩
theorem A18 {q f1 c1 c2 c3 c4 c5 c6 c7 c8:Prop} {p:f1→Prop} (f:f1) (k1:c1) (k2:c2) (k3:c3) (k4:c4) (k5:c5) (k6:c6) (k7:c7) (k8:c8) (hp:(p f)) (h:∀f1:f1,c1→c2→c3→c4→c5→c6→c7→c8→(Hid (p f1)→q)∧Tri (p f1):=by
 intro f1 c1 c2 c3 c4 c5 c6 c7 c8
 constructor
 ·intro hp
  repeat (first | refine AW.seq ?_ | refine AW.block ?_ | (refine AW.reg mix ?_;(simp -implicitDefEqProofs [f1];try simp (disch:=omega) only [w64,wu64])) | (refine need.of (by first | omega | kernel_rfl) ?_) | (refine AW.fin ?_;try (simp -implicitDefEqProofs [f1];try simp (disch:=omega) only [w64,wu64])) | (refine AW.cond rfl ?_ (fun _=>?_);focus (intro h;simp -implicitDefEqProofs [f1] at h;done)) | (refine AW.cond rfl (fun _=>?_) ?_;rotate_left;focus (intro h;simp -implicitDefEqProofs [f1] at h;done)) | (refine CallS.pu c1 ?_;try (simp -implicitDefEqProofs [f1];try simp (disch:=omega) only [w64,wu64])) | refine Exists.intro _ (And.intro c1 ?_) | (refine CallS.pu c2 ?_;try (simp -implicitDefEqProofs [f1];try simp (disch:=omega) only [w64,wu64])) | refine Exists.intro _ (And.intro c2 ?_) | (refine CallS.pu c3 ?_;try (simp -implicitDefEqProofs [f1];try simp (disch:=omega) only [w64,wu64])) | refine Exists.intro _ (And.intro c3 ?_) | (refine CallS.pu c4 ?_;try (simp -implicitDefEqProofs [f1];try simp (disch:=omega) only [w64,wu64])) | refine Exists.intro _ (And.intro c4 ?_) | (refine CallS.pu c5 ?_;try (simp -implicitDefEqProofs [f1];try simp (disch:=omega) only [w64,wu64])) | refine Exists.intro _ (And.intro c5 ?_) | (refine CallS.pu c6 ?_;try (simp -implicitDefEqProofs [f1];try simp (disch:=omega) only [w64,wu64])) | refine Exists.intro _ (And.intro c6 ?_) | (refine CallS.pu c7 ?_;try (simp -implicitDefEqProofs [f1];try simp (disch:=omega) only [w64,wu64])) | refine Exists.intro _ (And.intro c7 ?_) | (refine CallS.pu c8 ?_;try (simp -implicitDefEqProofs [f1];try simp (disch:=omega) only [w64,wu64])) | refine Exists.intro _ (And.intro c8 ?_))
  try exact hp.v
 ·with_reducible first | exact Tri.tt | exact Tri.any _):q:=(h f k1 k2 k3 k4 k5 k6 k7 k8).1 ⟨hp⟩
end
section
open Go.Proofs.YtdakiocgijlgiaaGreatDoor.Am
theorem mix:Tryz.prog.follows .mixedOrders=true:=by kernel_rfl
@[simp] def om_ (d s:Nat) (l:List Nat):O:=⟨some d,.mv (.t s),none,l⟩
@[simp] def oo_ (d:Nat) (a:A) (l:List Nat):O:=⟨some d,a,none,l⟩
@[simp] def og_ (d:Nat) (a:A) (s:Nat) (b:Bool) (l:List Nat):O:=⟨some d,a,some (s,b),l⟩
@[simp] def on_ (a:A) (l:List Nat):O:=⟨none,a,none,l⟩
noncomputable def codeOf (P:Program) (f:FuncId):C:=match fnOf P f with | some x=>x.1 | none=>.skip
theorem fno {P:Program} {f:FuncId} {rs:List RV} {nt:Nat} (h:((fnOf P f).map fun x=>x.2)=some (rs,nt,false)):fnOf P f=some (codeOf P f,rs,nt,false):=by
 unfold codeOf
 cases e:fnOf P f with
 | none=>rw [e] at h;cases h
 | some x=>rw [e] at h;simp only [Option.map_some,Option.some.injEq] at h;simp only [←h]
theorem cc {P:Program} {N:Nat} {c c':C} {Q:Exit→List V→List (Option Ob)→Prop} {T:List V} {H:List (Option Ob)} (h:c=c') (k:AW P N c' Q T H):AW P N c Q T H:=h▸k

abbrev o_7c:FuncId:=26
noncomputable def o_7d:C:=codeOf Tryz.prog o_7c
theorem o_7e:fnOf Tryz.prog o_7c=some (o_7d,[.t 2],14,false):=fno (by kernel_rfl)

abbrev o_7f:FuncId:=43
noncomputable def o_7g:C:=codeOf Tryz.prog o_7f
theorem o_7h:fnOf Tryz.prog o_7f=some (o_7g,[.t 4],17,false):=fno (by kernel_rfl)

abbrev o_7i:FuncId:=42
noncomputable def o_7j:C:=codeOf Tryz.prog o_7i
theorem o_7k:fnOf Tryz.prog o_7i=some (o_7j,[.t 4,.t 5],19,false):=fno (by kernel_rfl)

abbrev o_7l:FuncId:=68
noncomputable def o_7m:C:=codeOf Tryz.prog o_7l
theorem o_7n:fnOf Tryz.prog o_7l=some (o_7m,[],20,false):=fno (by kernel_rfl)

abbrev o_7o:FuncId:=25
noncomputable def o_7p:C:=codeOf Tryz.prog o_7o
theorem o_7q:fnOf Tryz.prog o_7o=some (o_7p,[],17,false):=fno (by kernel_rfl)

abbrev o_7r:FuncId:=21
noncomputable def o_7s:C:=codeOf Tryz.prog o_7r
theorem o_7t:fnOf Tryz.prog o_7r=some (o_7s,[],19,false):=fno (by kernel_rfl)

abbrev o_7u:FuncId:=23
abbrev o_7v:FuncId:=441
abbrev o_7w:FuncId:=442
abbrev o_7x:FuncId:=443
abbrev o_7y:FuncId:=444
abbrev o_7z:FuncId:=445
abbrev o_80:FuncId:=446
abbrev o_81:FuncId:=59
noncomputable def o_82:C:=codeOf Tryz.prog o_81
theorem o_83:fnOf Tryz.prog o_81=some (o_82,[.t 4],46,false):=fno (by kernel_rfl)

abbrev o_84:FuncId:=34
noncomputable def o_85:C:=codeOf Tryz.prog o_84
theorem o_86:fnOf Tryz.prog o_84=some (o_85,[.t 2],16,false):=fno (by kernel_rfl)

abbrev o_87:FuncId:=105
theorem o_88:Tryz.prog.funcs[o_87]?=some Tryz.f105:=Tryz.func105
abbrev o_89:FuncId:=62
noncomputable def o_8a:C:=codeOf Tryz.prog o_89
theorem o_8b:fnOf Tryz.prog o_89=some (o_8a,[.t 4],54,false):=fno (by kernel_rfl)

abbrev o_8c:FuncId:=95
noncomputable def o_8d:C:=codeOf Tryz.prog o_8c
theorem o_8e:fnOf Tryz.prog o_8c=some (o_8d,[.t 4],32,false):=fno (by kernel_rfl)

abbrev o_8f:FuncId:=36
noncomputable def o_8g:C:=codeOf Tryz.prog o_8f
theorem o_8h:fnOf Tryz.prog o_8f=some (o_8g,[.t 2],5,false):=fno (by kernel_rfl)

abbrev o_8i:FuncId:=169
noncomputable def o_8j:C:=codeOf Tryz.prog o_8i
theorem o_8k:fnOf Tryz.prog o_8i=some (o_8j,[.t 2],4,false):=fno (by kernel_rfl)

abbrev o_8l:FuncId:=98
noncomputable def o_8m:C:=codeOf Tryz.prog o_8l
theorem o_8n:fnOf Tryz.prog o_8l=some (o_8m,[],167,false):=fno (by kernel_rfl)

abbrev o_8o:FuncId:=167
noncomputable def o_8p:C:=codeOf Tryz.prog o_8o
theorem o_8q:fnOf Tryz.prog o_8o=some (o_8p,[.t 2],6,false):=fno (by kernel_rfl)

abbrev o_8r:FuncId:=97
noncomputable def o_8s:C:=codeOf Tryz.prog o_8r
theorem o_8t:fnOf Tryz.prog o_8r=some (o_8s,[.t 2],15,false):=fno (by kernel_rfl)

abbrev o_8u:FuncId:=96
noncomputable def o_8v:C:=codeOf Tryz.prog o_8u
theorem o_8w:fnOf Tryz.prog o_8u=some (o_8v,[.t 2],15,false):=fno (by kernel_rfl)

abbrev o_8x:FuncId:=100
theorem o_8y:Tryz.prog.funcs[o_8x]?=some Tryz.f100:=Tryz.func100
abbrev o_8z:FuncId:=168
noncomputable def o_90:C:=codeOf Tryz.prog o_8z
theorem o_91:fnOf Tryz.prog o_8z=some (o_90,[.t 2],25,false):=fno (by kernel_rfl)

abbrev o_92:FuncId:=393
theorem o_93:Tryz.prog.funcs[o_92]?=some Tryz.f393:=Tryz.func393
abbrev o_94:FuncId:=70
noncomputable def o_95:C:=codeOf Tryz.prog o_94
theorem o_96:fnOf Tryz.prog o_94=some (o_95,[.t 2],8,false):=fno (by kernel_rfl)

abbrev o_97:FuncId:=92
noncomputable def o_98:C:=codeOf Tryz.prog o_97
theorem o_99:fnOf Tryz.prog o_97=some (o_98,[.t 2,.t 3],18,false):=fno (by kernel_rfl)

abbrev o_9a:FuncId:=61
noncomputable def o_9b:C:=codeOf Tryz.prog o_9a
theorem o_9c:fnOf Tryz.prog o_9a=some (o_9b,[.t 4],8,false):=fno (by kernel_rfl)

abbrev o_9d:FuncId:=16
noncomputable def o_9e:C:=codeOf Tryz.prog o_9d
theorem o_9f:fnOf Tryz.prog o_9d=some (o_9e,[.t 2],5,false):=fno (by kernel_rfl)

abbrev o_9g:FuncId:=91
noncomputable def o_9h:C:=codeOf Tryz.prog o_9g
theorem o_9i:fnOf Tryz.prog o_9g=some (o_9h,[.t 6,.t 7],26,false):=fno (by kernel_rfl)

abbrev o_9j:FuncId:=84
noncomputable def o_9k:C:=codeOf Tryz.prog o_9j
theorem o_9l:fnOf Tryz.prog o_9j=some (o_9k,[.t 4],34,false):=fno (by kernel_rfl)

abbrev o_9m:FuncId:=85
noncomputable def o_9n:C:=codeOf Tryz.prog o_9m
theorem o_9o:fnOf Tryz.prog o_9m=some (o_9n,[.t 4],8,false):=fno (by kernel_rfl)

abbrev o_9p:FuncId:=94
noncomputable def o_9q:C:=codeOf Tryz.prog o_9p
theorem o_9r:fnOf Tryz.prog o_9p=some (o_9q,[.t 4],8,false):=fno (by kernel_rfl)

abbrev o_9s:FuncId:=18
noncomputable def o_9t:C:=codeOf Tryz.prog o_9s
theorem o_9u:fnOf Tryz.prog o_9s=some (o_9t,[.t 4],75,false):=fno (by kernel_rfl)

abbrev o_9v:FuncId:=24
noncomputable def o_9w:C:=codeOf Tryz.prog o_9v
theorem o_9x:fnOf Tryz.prog o_9v=some (o_9w,[.t 4],8,false):=fno (by kernel_rfl)

abbrev o_9y:FuncId:=93
noncomputable def o_9z:C:=codeOf Tryz.prog o_9y
theorem o_a0:fnOf Tryz.prog o_9y=some (o_9z,[.t 4],43,false):=fno (by kernel_rfl)

abbrev o_a1:FuncId:=52
noncomputable def o_a2:C:=codeOf Tryz.prog o_a1
theorem o_a3:fnOf Tryz.prog o_a1=some (o_a2,[.t 8],66,false):=fno (by kernel_rfl)

abbrev o_a4:FuncId:=7
abbrev o_a5:FuncId:=12
noncomputable def o_a6:C:=codeOf Tryz.prog o_a5
theorem o_a7:fnOf Tryz.prog o_a5=some (o_a6,[.cell 2 true 8,.t 3],16,false):=fno (by kernel_rfl)

abbrev o_a8:FuncId:=9
noncomputable def o_a9:C:=codeOf Tryz.prog o_a8
theorem o_aa:fnOf Tryz.prog o_a8=some (o_a9,[.t 4],57,false):=fno (by kernel_rfl)

abbrev o_ab:FuncId:=13
noncomputable def o_ac:C:=codeOf Tryz.prog o_ab
theorem o_ad:fnOf Tryz.prog o_ab=some (o_ac,[.t 2],82,false):=fno (by kernel_rfl)

abbrev o_ae:FuncId:=33
noncomputable def o_af:C:=codeOf Tryz.prog o_ae
theorem o_ag:fnOf Tryz.prog o_ae=some (o_af,[.t 2],77,false):=fno (by kernel_rfl)

abbrev o_ah:FuncId:=19
noncomputable def o_ai:C:=codeOf Tryz.prog o_ah
theorem o_aj:fnOf Tryz.prog o_ah=some (o_ai,[.t 2],22,false):=fno (by kernel_rfl)

abbrev o_ak:FuncId:=58
noncomputable def o_al:C:=codeOf Tryz.prog o_ak
theorem o_am:fnOf Tryz.prog o_ak=some (o_al,[.t 2],13,false):=fno (by kernel_rfl)

abbrev o_an:FuncId:=31
noncomputable def o_ao:C:=codeOf Tryz.prog o_an
theorem o_ap:fnOf Tryz.prog o_an=some (o_ao,[.cell 2 true 8,.t 3],93,false):=fno (by kernel_rfl)

abbrev o_aq:FuncId:=60
noncomputable def o_ar:C:=codeOf Tryz.prog o_aq
theorem o_as:fnOf Tryz.prog o_aq=some (o_ar,[.t 2,.t 3],43,false):=fno (by kernel_rfl)

abbrev o_at:FuncId:=32
noncomputable def o_au:C:=codeOf Tryz.prog o_at
theorem o_av:fnOf Tryz.prog o_at=some (o_au,[.t 2],14,false):=fno (by kernel_rfl)

abbrev o_aw:FuncId:=22
abbrev o_ax:FuncId:=4
noncomputable def o_ay:C:=codeOf Tryz.prog o_ax
theorem o_az:fnOf Tryz.prog o_ax=some (o_ay,[.t 2],68,false):=fno (by kernel_rfl)

abbrev o_b0:FuncId:=6
noncomputable def o_b1:C:=codeOf Tryz.prog o_b0
theorem o_b2:fnOf Tryz.prog o_b0=some (o_b1,[.t 0],3,false):=fno (by kernel_rfl)

abbrev o_b3:FuncId:=30
noncomputable def o_b4:C:=codeOf Tryz.prog o_b3
theorem o_b5:fnOf Tryz.prog o_b3=some (o_b4,[.t 2],32,false):=fno (by kernel_rfl)

abbrev o_b6:FuncId:=29
noncomputable def o_b7:C:=codeOf Tryz.prog o_b6
theorem o_b8:fnOf Tryz.prog o_b6=some (o_b7,[.t 2],7,false):=fno (by kernel_rfl)

abbrev o_b9:FuncId:=10
noncomputable def o_ba:C:=codeOf Tryz.prog o_b9
theorem o_bb:fnOf Tryz.prog o_b9=some (o_ba,[.t 2],6,false):=fno (by kernel_rfl)

abbrev o_bc:FuncId:=14
noncomputable def o_bd:C:=codeOf Tryz.prog o_bc
theorem o_be:fnOf Tryz.prog o_bc=some (o_bd,[.t 4],78,false):=fno (by kernel_rfl)

abbrev o_bf:FuncId:=11
noncomputable def o_bg:C:=codeOf Tryz.prog o_bf
theorem o_bh:fnOf Tryz.prog o_bf=some (o_bg,[.t 2,.cell 3 true 8],185,false):=fno (by kernel_rfl)

abbrev o_bi:FuncId:=35
noncomputable def o_bj:C:=codeOf Tryz.prog o_bi
theorem o_bk:fnOf Tryz.prog o_bi=some (o_bj,[.t 4],26,false):=fno (by kernel_rfl)

abbrev o_bl:FuncId:=90
noncomputable def o_bm:C:=codeOf Tryz.prog o_bl
theorem o_bn:fnOf Tryz.prog o_bl=some (o_bm,[.t 4],53,false):=fno (by kernel_rfl)

abbrev o_bo:FuncId:=86
noncomputable def o_bp:C:=codeOf Tryz.prog o_bo
theorem o_bq:fnOf Tryz.prog o_bo=some (o_bp,[.t 4],41,false):=fno (by kernel_rfl)

abbrev o_br:FuncId:=88
noncomputable def o_bs:C:=codeOf Tryz.prog o_br
theorem o_bt:fnOf Tryz.prog o_br=some (o_bs,[.t 4],67,false):=fno (by kernel_rfl)

abbrev o_bu:FuncId:=56
noncomputable def o_bv:C:=codeOf Tryz.prog o_bu
theorem o_bw:fnOf Tryz.prog o_bu=some (o_bv,[.t 2],42,false):=fno (by kernel_rfl)

abbrev o_bx:FuncId:=89
noncomputable def o_by:C:=codeOf Tryz.prog o_bx
theorem o_bz:fnOf Tryz.prog o_bx=some (o_by,[.t 2],14,false):=fno (by kernel_rfl)

abbrev o_c0:FuncId:=87
noncomputable def o_c1:C:=codeOf Tryz.prog o_c0
theorem o_c2:fnOf Tryz.prog o_c0=some (o_c1,[.t 4],41,false):=fno (by kernel_rfl)

abbrev o_c3:FuncId:=54
noncomputable def o_c4:C:=codeOf Tryz.prog o_c3
theorem o_c5:fnOf Tryz.prog o_c3=some (o_c4,[.t 2],46,false):=fno (by kernel_rfl)

abbrev o_c6:FuncId:=155
noncomputable def o_c7:C:=codeOf Tryz.prog o_c6
theorem o_c8:fnOf Tryz.prog o_c6=some (o_c7,[.t 2],21,false):=fno (by kernel_rfl)

abbrev o_c9:FuncId:=55
noncomputable def o_ca:C:=codeOf Tryz.prog o_c9
theorem o_cb:fnOf Tryz.prog o_c9=some (o_ca,[.t 2],19,false):=fno (by kernel_rfl)

abbrev o_cc:FuncId:=57
noncomputable def o_cd:C:=codeOf Tryz.prog o_cc
theorem o_ce:fnOf Tryz.prog o_cc=some (o_cd,[.cell 4 true 2],12,false):=fno (by kernel_rfl)

abbrev o_cf:FuncId:=53
noncomputable def o_cg:C:=codeOf Tryz.prog o_cf
theorem o_ch:fnOf Tryz.prog o_cf=some (o_cg,[.t 2],9,false):=fno (by kernel_rfl)

abbrev o_ci:FuncId:=28
noncomputable def o_cj:C:=codeOf Tryz.prog o_ci
theorem o_ck:fnOf Tryz.prog o_ci=some (o_cj,[.cell 2 true 2],18,false):=fno (by kernel_rfl)

abbrev o_cl:FuncId:=27
noncomputable def o_cm:C:=codeOf Tryz.prog o_cl
theorem o_cn:fnOf Tryz.prog o_cl=some (o_cm,[.t 2],12,false):=fno (by kernel_rfl)
end
section
def wval:List Nat→Nat
 | []=>0
 | x::l=>x+18446744073709551616*wval l
def small (ws:List Nat):Prop:=∀x∈ws,x<18446744073709551616

theorem o_co:∀{ws:List Nat},small ws→wval ws<18446744073709551616^ws.length:=by
 intro ws
 induction ws with
 | nil=>intro _;simp [wval]
 | cons x l ih =>
  intro h
  have h1:=h x (by simp)
  have h2:=ih (fun y hy=>h y (by simp [hy]))
  rw [wval,List.length_cons,Nat.pow_succ]
  omega

def trimN (ws:List Nat):Nat→Nat
 | 0=>0
 | n+1=>if ws.getD n 0=0 then trimN ws n else n+1
theorem o_cp (ws:List Nat) (n:Nat) (h:n<ws.length):ws.take (n+1)=ws.take n++[ws.getD n 0]:=by
 rw [List.take_add_one,List.getElem?_eq_getElem h]
 simp [List.getD,List.getElem?_eq_getElem h]
def top1 (ws:List Nat):Prop:=∀k,ws.length=k+1→ws.getD k 0≠0
theorem o_cq (ws:List Nat):∀n,n≤ws.length→top1 (ws.take (trimN ws n)):=by
 intro n
 induction n with
 | zero=>intro _ k hk;simp [trimN] at hk
 | succ n ih =>
  intro h
  unfold trimN
  split
  ·exact ih (by omega)
  ·rename_i h0
   intro k hk
   rw [List.length_take,Nat.min_eq_left h] at hk
   obtain rfl:n=k:=by omega
   have e:(ws.take (n+1)).getD n 0=ws.getD n 0:=by simp [List.getD]
   rw [e]
   exact h0

theorem small.take {ws:List Nat} (h:small ws) (n:Nat):small (ws.take n):=fun x hx=>h x (List.mem_of_mem_take hx)

theorem o_cr:∀{ws:List Nat} {m:Nat},top1 ws→wval ws<18446744073709551616^m→ws.length≤m:=by
 intro ws
 induction ws with
 | nil=>intro m _ _;exact Nat.zero_le _
 | cons x l ih =>
  intro m ht h
  cases m with
  | zero =>
   exfalso
   rw [Nat.pow_zero] at h
   rw [wval] at h
   cases l with
   | nil =>
    have:=ht 0 rfl
    simp [wval] at this h
    omega
   | cons y l =>
    have hw:wval (y::l)=0:=by omega
    have:(y::l).length≤0:=ih (m:=0) (fun k hk=>by have:=ht (k+1) (by simp [hk]);simpa using this) (by rw [hw];decide)
    simp at this
  | succ m =>
   rw [List.length_cons]
   have:l.length≤m:=by
    cases l with
    | nil=>exact Nat.zero_le _
    | cons y l =>
     refine ih (fun k hk=>by have:=ht (k+1) (by simp [hk]);simpa using this) ?_
     rw [wval,Nat.pow_succ] at h
     omega
   omega

theorem small.getD {l:List Nat} (h:small l) (n:Nat):l.getD n 0<18446744073709551616:=by
 by_cases hn:n<l.length
 ·rw [List.getD,List.getElem?_eq_getElem hn];exact h _ (List.getElem_mem hn)
 ·simp [List.getD,List.getElem?_eq_none (show l.length≤n by omega)]
theorem o_cs {a b:List Nat} (ha:small a) (hb:top1 b) (h:a.length<b.length):wval a<wval b:=by
 refine Nat.lt_of_lt_of_le (o_co ha) ?_
 apply Nat.le_of_not_lt
 intro hlt
 have:=o_cr hb hlt
 omega
def cmpN (a b:List Nat):Nat→Int
 | 0=>0
 | n+1=>if a.getD n 0<b.getD n 0 then -1 else if b.getD n 0<a.getD n 0 then 1 else cmpN a b n
def cmpZ (m n:Nat):Int:=if m<n then -1 else if n<m then 1 else 0
end
section
open Go.RowKit
def W (ws:List Nat):D:=.sl ws.length (ws.map fun x:Nat=>.int .u64 x)

def wordsF:Nat→Nat→List Nat
 | 0,_=>[]
 | f+1,n=>if n=0 then [] else (n%18446744073709551616)::wordsF f (n/18446744073709551616)
def words (n:Nat):List Nat:=wordsF n n

theorem o_ct:∀(f n:Nat),n≤f→wval (wordsF f n)=n∧small (wordsF f n)∧top1 (wordsF f n)
 | 0,n,h=>by
  obtain rfl:n=0:=by omega
  exact ⟨rfl,by simp [small,wordsF],by intro k hk;simp [wordsF] at hk⟩
 | f+1,n,h=>by
  by_cases h0:n=0
  ·subst h0
   simp only [wordsF,if_true]
   exact ⟨rfl,by simp [small],by intro k hk;simp at hk⟩
  ·obtain ⟨h1,h2,h3⟩:=o_ct f (n/18446744073709551616) (by omega)
   simp only [wordsF,if_neg h0]
   refine ⟨by simp only [wval,h1];omega,fun x hx=>?_,fun k hk=>?_⟩
   ·rcases List.mem_cons.1 hx with rfl | hx
    ·omega
    ·exact h2 x hx
   ·cases hl:wordsF f (n/18446744073709551616) with
    | nil =>
     rw [hl] at h1 hk
     simp [wval] at h1 hk
     subst hk
     simp;omega
    | cons y r =>
     rw [hl] at hk h3
     simp at hk
     subst hk
     have:=h3 r.length rfl
     simpa using this
theorem o_cu (n:Nat):wval (words n)=n:=(o_ct n n (Nat.le_refl _)).1
theorem o_cv (n:Nat):small (words n):=(o_ct n n (Nat.le_refl _)).2.1
theorem o_cw (n:Nat):top1 (words n):=(o_ct n n (Nat.le_refl _)).2.2
def natW (n:Nat):D:=W (words n)
def size (n:Nat):Nat:=(words n).length

theorem o_cx (n:Nat) (l:List D) (hl:l.length=n) (hn:n≤4000000000):Eqn Tryz.prog o_94 [.d (.sl n l)] [] (.d (.sl n l)) []:=by
 refine Eqn.pure o_96 (o_6a _) ?_
 refine cc (c':=?z0) ?_ ?_
 case refine_1=>cbv<;>exact rfl
 rcases Nat.eq_zero_or_pos n with rfl | h0
 ·have:l=[]:=List.eq_nil_of_length_eq_zero hl
  subst this
  refine AW.empty 0 rfl ?_ ?_
  ·simp
   refine G0 ?_;try with_reducible exact tt
   refine AW.cond rfl (fun h=>?_) (fun h=>?_)
   ·refine G0 ?_;try with_reducible exact tt
    exact Sub1.nil
   ·simp at h
  ·simp
   refine G0 ?_;try with_reducible exact tt
   refine AW.cond rfl (fun h=>?_) (fun h=>?_)
   ·simp at h
   ·refine G0 ?_;try with_reducible exact tt
    exact Sub1.sl0
 ·refine G1 h0 ?_;try with_reducible exact tt
  refine AW.cond rfl (fun h=>?_) (fun h=>?_)
  ·simp at h
  ·refine G0 ?_;try with_reducible exact tt
   have h1:¬n=0:=by omega
   simp [h1,hl]
   refine need.of (by omega) ?_
   refine AW.freeze 0 1 ⟨24,l.map .d⟩ l (by simp) rfl ?_
   simp
   refine G0 ?_;try with_reducible exact tt
   have:l.take n=l:=List.take_of_length_le (by omega)
   simp [this]

theorem o_cy {m n:Nat} (h:size m<size n):m<n:=by
 have:=o_cs (o_cv m) (o_cw n) h
 rwa [o_cu,o_cu] at this
end
section
open Go.RowKit
abbrev U (ws:List Nat):List V:=ws.map fun x:Nat=>V.d (.int .u64 x)

theorem o_cz (x y c s d:Nat) (hx:x<18446744073709551616) (hy:y<18446744073709551616) (hc:c≤1) (hs:s<18446744073709551616) (e:x+y+c=s+18446744073709551616*d):Eqn Tryz.prog o_8x [.d (.int .u64 x),.d (.int .u64 y),.d (.int .u64 c)] [] (.tup [.d (.int .u64 s),.d (.int .u64 d)]) []:=by
 refine Eqn.extern o_8y (by kernel_rfl) (by kernel_rfl) (by kernel_rfl) (e:=add64Entry) (by kernel_rfl) rfl fun m vs h=>?_
 obtain ⟨v1,r1,rfl,h1,h⟩:=V.reps_cons'.1 h
 obtain ⟨v2,r2,rfl,h2,h⟩:=V.reps_cons'.1 h
 obtain ⟨v3,r3,rfl,h3,h⟩:=V.reps_cons'.1 h
 simp at h;subst h
 rw [V.rep_int] at h1 h2 h3
 subst h1 h2 h3
 have:=run_add64 (P:=Tryz.prog) x y c (by omega) (by omega) (by omega) (by omega) m.w
 refine ⟨_,this,?_⟩
 unfold V.rep
 refine ⟨[.int .u64 (((x:Int)+y+c)%18446744073709551616),.int .u64 (((x:Int)+y+c)/18446744073709551616)],rfl,?_⟩
 simp only [V.reps_cons,V.rep_int,V.reps_nil,and_true]
 constructor<;>congr 1<;>omega

theorem o_d0 (x y c s d:Nat) (hx:x<18446744073709551616) (hy:y<18446744073709551616) (hc:c≤1) (hs:s<18446744073709551616) (e:x+18446744073709551616*d=s+y+c):Eqn Tryz.prog o_92 [.d (.int .u64 x),.d (.int .u64 y),.d (.int .u64 c)] [] (.tup [.d (.int .u64 s),.d (.int .u64 d)]) []:=by
 refine Eqn.extern o_93 (by kernel_rfl) (by kernel_rfl) (by kernel_rfl) (e:=sub64Entry) (by kernel_rfl) rfl fun m vs h=>?_
 obtain ⟨v1,r1,rfl,h1,h⟩:=V.reps_cons'.1 h
 obtain ⟨v2,r2,rfl,h2,h⟩:=V.reps_cons'.1 h
 obtain ⟨v3,r3,rfl,h3,h⟩:=V.reps_cons'.1 h
 simp at h;subst h
 rw [V.rep_int] at h1 h2 h3
 subst h1 h2 h3
 have:=run_sub64 (P:=Tryz.prog) x y c hc m.w
 refine ⟨_,this,?_⟩
 unfold V.rep
 refine ⟨[.int .u64 s,.int .u64 d],?_,by simp only [V.reps_cons,V.rep_int,V.reps_nil,and_true]⟩
 congr 4
 ·omega
 ·congr 2
  split<;>omega

theorem o_d1 (l:List D):(V.tup (l.map .d)).plain:=by
 have h1:V.lowl 0 (l.map V.d)=true:=by induction l<;>simp_all [V.lowl,V.low]
 have h2:∀θ,V.rens θ (l.map V.d)=l.map V.d:=fun θ=>by induction l<;>simp_all [V.rens,V.ren]
 exact ⟨by simp [V.low,h1],fun θ=>by simp [V.ren,h2]⟩

@[simp] theorem o_d2 (l:List V):Subs l l↔True:=iff_true_intro (Subs.refl l)
theorem o_d3 (a b:D):(V.tup [.d a,.d b]).plain:=o_d1 [a,b]
end
section
open Go.RowKit
theorem o_d4 {m n:Nat} (h:m≤n):size m≤size n:=by
 apply Nat.le_of_not_lt
 intro hlt
 have:=o_cy hlt
 omega
end
section
open Go.RowKit
@[simp] theorem o_d5 (n:Nat) (l:List Nat):V.lowl n (U l)=true:=by induction l<;>simp_all [U,V.lowl,V.low]
end
section
open Go.RowKit
end
section
open Go.RowKit
theorem Sub1.tup {l r:List V} (h:Subs l r):Sub1 (.tup l) (.tup r):=fun m v k=>by
 unfold V.rep at k ⊢
 obtain ⟨vs,h1,h2⟩:=k
 exact ⟨vs,h1,h m vs h2⟩
theorem Subs.cons {x y:V} {l r:List V} (h:Sub1 x y) (h':Subs l r):Subs (x::l) (y::r):=fun m vs k=>by
 obtain ⟨v,r,rfl,h1,h2⟩:=V.reps_cons'.1 k
 exact V.reps_cons.2 ⟨h m v h1,h' m r h2⟩
end
section
open Go.RowKit
end
section
open Go.RowKit
def lit1:ByteArray:=⟨#[48,49,50,51,52,53,54,55,56,57,97,98,99,100,101,102,103,104,105,106,107,108,109,110,111,112,113,114,115,116,117,118,119,120,121,122]⟩
def lit2:ByteArray:=⟨#[48,48,48,49,48,50,48,51,48,52,48,53,48,54,48,55,48,56,48,57,49,48,49,49,49,50,49,51,49,52,49,53,49,54,49,55,49,56,49,57,50,48,50,49,50,50,50,51,50,52,50,53,50,54,50,55,50,56,50,57,51,48,51,49,51,50,51,51,51,52,51,53,51,54,51,55,51,56,51,57,52,48,52,49,52,50,52,51,52,52,52,53,52,54,52,55,52,56,52,57,53,48,53,49,53,50,53,51,53,52,53,53,53,54,53,55,53,56,53,57,54,48,54,49,54,50,54,51,54,52,54,53,54,54,54,55,54,56,54,57,55,48,55,49,55,50,55,51,55,52,55,53,55,54,55,55,55,56,55,57,56,48,56,49,56,50,56,51,56,52,56,53,56,54,56,55,56,56,56,57,57,48,57,49,57,50,57,51,57,52,57,53,57,54,57,55,57,56,57,57]⟩
theorem o_d6:lit1.size=36:=by kernel_rfl
theorem o_d7:lit2.size=200:=by kernel_rfl
def smallS (n:Nat):ByteArray:=if n<10 then lit1.extract n (n+1) else lit2.extract (n*2) (n*2+2)

theorem o_d8 (n:Nat) (h:n<100):Eqn Tryz.prog o_8u [.d (.int .i64 n)] [] (.d (.str (smallS n))) []:=by
 refine Eqn.pure o_8w (o_6a _) ?_
 refine cc (c':=?z21) ?_ ?_
 case refine_1=>cbv<;>exact rfl
 rw [show (⟨#[48,49,50,51,52,53,54,55,56,57,97,98,99,100,101,102,103,104,105,106,107,108,109,110,111,112,113,114,115,116,117,118,119,120,121,122]⟩:ByteArray)=lit1 from rfl,show (⟨#[48,48,48,49,48,50,48,51,48,52,48,53,48,54,48,55,48,56,48,57,49,48,49,49,49,50,49,51,49,52,49,53,49,54,49,55,49,56,49,57,50,48,50,49,50,50,50,51,50,52,50,53,50,54,50,55,50,56,50,57,51,48,51,49,51,50,51,51,51,52,51,53,51,54,51,55,51,56,51,57,52,48,52,49,52,50,52,51,52,52,52,53,52,54,52,55,52,56,52,57,53,48,53,49,53,50,53,51,53,52,53,53,53,54,53,55,53,56,53,57,54,48,54,49,54,50,54,51,54,52,54,53,54,54,54,55,54,56,54,57,55,48,55,49,55,50,55,51,55,52,55,53,55,54,55,55,55,56,55,57,56,48,56,49,56,50,56,51,56,52,56,53,56,54,56,55,56,56,56,57,57,48,57,49,57,50,57,51,57,52,57,53,57,54,57,55,57,56,57,57]⟩:ByteArray)=lit2 from rfl]
 have e1:=o_d6
 have e2:=o_d7
 generalize hl1:lit1=l1 at *
 generalize hl2:lit2=l2 at *
 by_cases hs:n<10
 ·have hs':(n:Int)<10:=by omega
  refine G1 hs' ?_;try with_reducible exact tt
  refine AW.cond rfl (fun h=>?_) (fun h=>?_)
  ·have ew:IntKind.i64.wrap ((n:Int)+1)=(n:Int)+1:=w64 (by omega) (by omega)
   refine G1 (fs ew e1) ?_;try with_reducible exact tt
   refine Sub1.of ?_
   rw [smallS,if_pos hs,hl1]
  ·simp [hs] at h
 ·have hs':¬(n:Int)<10:=by omega
  refine G1 hs' ?_;try with_reducible exact tt
  refine AW.cond rfl (fun h=>?_) (fun h=>?_)
  ·simp [hs] at h
  ·have ew:IntKind.i64.wrap ((n:Int)*2)=(n:Int)*2:=w64 (by omega) (by omega)
   have ew2:IntKind.i64.wrap ((n:Int)*2+2)=(n:Int)*2+2:=w64 (by omega) (by omega)
   refine G1 (fs ew (fs ew2 e2)) ?_;try with_reducible exact tt
   refine Sub1.of ?_
   rw [smallS,if_neg hs,hl2,show ((n:Int)*2).toNat=n*2 by omega,show ((n:Int)*2+2).toNat=n*2+2 by omega]

@[simp] theorem o_d9:ByteArray.size ⟨#[]⟩=0:=rfl
@[simp] theorem o_da:ByteArray.size ⟨#[47]⟩=1:=rfl
theorem o_db (n:Nat) (h:n<100):Eqn Tryz.prog o_8c [.d (.int .u64 n),.d (.int .i64 10)] [] (.d (.str (smallS n))) []:=by
 refine Eqn.pure o_8e (o_6a _) ?_
 refine cc (c':=?z22) ?_ ?_
 case refine_1=>cbv<;>exact rfl
 have h1:(n:Int)<100:=by omega
 refine G1 h1 ?_;try with_reducible exact tt
 refine AW.cond rfl (fun h=>?_) (fun h=>?_)
 ·refine G1 h1 ?_;try with_reducible exact tt
  refine AW.cond rfl (fun h=>?_) (fun h=>?_)
  ·have e:IntKind.i64.wrap (n:Int)=n:=w64 (by omega) (by omega)
   refine G1 e ?_;try with_reducible exact tt
   refine CallS.pu (o_d8 n (by omega)) (R0 ?_);try with_reducible exact tt
  ·simp [h1] at h
 ·simp at h
end
section
def padN:Nat→Nat→List Nat
 | 0,_=>[]
 | w+1,n=>padN w (n/10)++[48+n%10]
theorem o_dc:∀w n,(padN w n).length=w
 | 0,_=>rfl
 | w+1,n=>by rw [padN,List.length_append,o_dc w];rfl
theorem o_dd (a:Nat):∀b n,padN (a+b) n=padN a (n/10^b)++padN b n
 | 0,n=>by simp [padN]
 | b+1,n=>by
  rw [←Nat.add_assoc,padN,padN,o_dd a b,Nat.div_div_eq_div_mul,Nat.pow_succ,Nat.mul_comm 10,List.append_assoc]
theorem o_de (u:Nat):padN 4 u=[48+u/1000%10,48+u/100%10,48+u/10%10,48+u%10]:=by
 simp [padN,Nat.div_div_eq_div_mul]
theorem o_df (u:Nat):padN 2 u=[48+u/10%10,48+u%10]:=by simp [padN]
theorem o_dg:∀w n,padN w (n%10^w)=padN w n
 | 0,_=>rfl
 | w+1,n=>by
  rw [padN,padN]
  have e1:n%10^(w+1)/10=n/10%10^w:=by rw [Nat.pow_succ,Nat.mul_comm,Nat.mod_mul_right_div_self]
  have e2:n%10^(w+1)%10=n%10:=by rw [Nat.pow_succ,Nat.mul_comm,Nat.mod_mul_right_mod]
  rw [e1,e2,o_dg w]
def ndig (n:Nat):Nat:=if n<10 then 1 else ndig (n/10)+1
termination_by n
decreasing_by omega
theorem o_dh:∀(k n:Nat),10^k≤n→n<10^(k+1)→ndig n=k+1
 | 0,n,_,h2=>by rw [ndig,if_pos (by simpa using h2)]
 | k+1,n,h1,h2=>by
  have h10:10≤n:=Nat.le_trans (by rw [Nat.pow_succ];have:0<10^k:=Nat.pow_pos (by decide);omega) h1
  rw [ndig,if_neg (by omega),o_dh k (n/10) (by rw [Nat.pow_succ] at h1;omega) (by rw [Nat.pow_succ] at h2;omega)]
theorem o_di (n:Nat):0<ndig n:=by rw [ndig];split<;>omega
theorem o_dj:∀n:Nat,n<10^ndig n:=by
 intro n
 induction n using Nat.strongRecOn with
 | _ n ih =>
  rw [ndig]
  split
  ·simpa using ‹n<10›
  ·have:=ih (n/10) (by omega)
   rw [Nat.pow_succ];omega
theorem o_dk:∀(n k:Nat),n<10^k→0<k→ndig n≤k:=by
 intro n
 induction n using Nat.strongRecOn with
 | _ n ih =>
  intro k h hk
  rw [ndig]
  split
  ·exact hk
  ·obtain ⟨j,rfl⟩:∃j,k=j+1:=⟨k-1,by omega⟩
   rcases Nat.eq_zero_or_pos j with rfl | hj
   ·simp at h;omega
   ·have:=ih (n/10) (by omega) j (by rw [Nat.pow_succ] at h;omega) hj
    omega
theorem o_dl:∀(k n:Nat),0<n/10^k→ndig n=ndig (n/10^k)+k
 | 0,n,_=>by simp
 | k+1,n,h=>by
  have h1:n/10^(k+1)=n/10/10^k:=by rw [Nat.pow_succ,Nat.mul_comm,Nat.div_div_eq_div_mul]
  have h2:10≤n:=by
   rcases Nat.lt_or_ge n 10 with h3 | h3
   ·rw [h1,show n/10=0 by omega,Nat.zero_div] at h;omega
   ·exact h3
  rw [ndig,if_neg (by omega),o_dl k (n/10) (by rw [←h1];exact h),h1];omega
def decN (n:Nat):List Nat:=padN (ndig n) n
theorem o_dm (k n:Nat) (h:0<n/10^k):decN n=decN (n/10^k)++padN k n:=by
 rw [decN,o_dl k n h,o_dd,decN]
def bst (l:List Nat):ByteArray:=⟨(l.map UInt8.ofNat).toArray⟩
def txt (n:Nat):ByteArray:=bst (decN n)
theorem o_dn (a b:List Nat):bst a++bst b=bst (a++b):=by
 unfold bst
 apply ByteArray.ext
 rw [ByteArray.data_append]
 simp
@[simp] theorem o_do (l:List Nat):(bst l).size=l.length:=by
 show ((l.map UInt8.ofNat).toArray).size=_
 simp
theorem o_dp:bst []=⟨#[]⟩:=rfl
theorem o_dq (n:Nat):(decN n).length=ndig n:=o_dc _ _
theorem o_dr (n b:Nat) (h0:2^(b-1)≤n) (h1:n<2^b) (hb:0<b) (hb2:b≤64):b*78913/262144≤19∧ndig n=b*78913/262144+if 10^(b*78913/262144)≤n then 1 else 0:=by
 have key:∀b∈List.range 65,b*78913/262144≤19∧2^b≤10^(b*78913/262144+1)∧(b*78913/262144=0∨10^(b*78913/262144-1)≤2^(b-1)):=by decide
 obtain ⟨k1,k2,k3⟩:=key b (by simp;omega)
 refine ⟨k1,?_⟩
 generalize b*78913/262144=k at *
 by_cases h:10^k≤n
 ·rw [if_pos h,o_dh k n h (Nat.lt_of_lt_of_le h1 k2)]
 ·rw [if_neg h]
  rcases k3 with k3 | k3
  ·subst k3
   have:0<2^(b-1):=Nat.pow_pos (by decide)
   simp at h;omega
  ·have hk:0<k:=by
    rcases Nat.eq_zero_or_pos k with rfl | hk
    ·have:0<2^(b-1):=Nat.pow_pos (by decide)
     simp at h;omega
    ·exact hk
   obtain ⟨j,rfl⟩:∃j,k=j+1:=⟨k-1,by omega⟩
   rw [o_dh j n (by simpa using Nat.le_trans k3 h0) (by omega)]
theorem o_ds (A R:List Nat) (m x:Nat):(A++(List.replicate (m+1) 0++R)).set (A.length+m) x=A++(List.replicate m 0++x::R):=by
 rw [List.set_append_right _ _ (by omega),Nat.add_sub_cancel_left,List.set_append_left _ _ (by simp),List.replicate_succ',List.set_append_right _ _ (by simp)]
 simp
end
section
def bitsN (n:Nat):Nat:=if n=0 then 0 else Nat.log2 n+1
theorem o_dt (n:Nat):n<2^bitsN n:=by
 unfold bitsN
 split
 ·omega
 ·exact Nat.lt_log2_self
theorem o_du {n k:Nat} (h:n<2^k):bitsN n≤k:=by
 unfold bitsN
 split
 ·omega
 ·rename_i h0
  have:=(Nat.log2_lt h0).2 h
  omega
theorem o_dv {n k:Nat} (h:2^k≤n):bitsN n=k+bitsN (n/2^k):=by
 have hp:=Nat.two_pow_pos k
 have hq:0<n/2^k:=Nat.div_pos h hp
 have h1:=o_dt (n/2^k)
 have h2:2^(bitsN (n/2^k)-1)≤n/2^k:=by
  unfold bitsN
  rw [if_neg (by omega),Nat.add_sub_cancel]
  exact Nat.log2_self_le (by omega)
 have h3:0<bitsN (n/2^k):=by unfold bitsN;rw [if_neg (by omega)];omega
 apply Nat.le_antisymm
 ·apply o_du
  rw [Nat.pow_add,Nat.mul_comm]
  exact (Nat.div_lt_iff_lt_mul hp).1 h1
 ·apply Nat.le_of_not_lt
  intro hlt
  have h4:=o_dt n
  have h5:2^bitsN n≤2^(k+(bitsN (n/2^k)-1)):=Nat.pow_le_pow_right (by omega) (by omega)
  rw [Nat.pow_add] at h5
  have h6:2^k*2^(bitsN (n/2^k)-1)≤n:=by
   rw [Nat.mul_comm];exact Nat.le_trans (Nat.mul_le_mul_right _ h2) (Nat.div_mul_le_self _ _)
  omega
end
section
set_option maxRecDepth 10000
end
section
open Go.RowKit
theorem o_dw:∀i:Nat,i<256→(([0,1,2,2,3,3,3,3,4,4,4,4,4,4,4,4,5,5,5,5,5,5,5,5,5,5,5,5,5,5,5,5,6,6,6,6,6,6,6,6,6,6,6,6,6,6,6,6,6,6,6,6,6,6,6,6,6,6,6,6,6,6,6,6,7,7,7,7,7,7,7,7,7,7,7,7,7,7,7,7,7,7,7,7,7,7,7,7,7,7,7,7,7,7,7,7,7,7,7,7,7,7,7,7,7,7,7,7,7,7,7,7,7,7,7,7,7,7,7,7,7,7,7,7,7,7,7,7,8,8,8,8,8,8,8,8,8,8,8,8,8,8,8,8,8,8,8,8,8,8,8,8,8,8,8,8,8,8,8,8,8,8,8,8,8,8,8,8,8,8,8,8,8,8,8,8,8,8,8,8,8,8,8,8,8,8,8,8,8,8,8,8,8,8,8,8,8,8,8,8,8,8,8,8,8,8,8,8,8,8,8,8,8,8,8,8,8,8,8,8,8,8,8,8,8,8,8,8,8,8,8,8,8,8,8,8,8,8,8,8,8,8,8,8,8,8,8,8,8,8,8,8,8,8,8,8]:List UInt8)[i]?.getD 0).toNat=bitsN i:=by
 have h:((List.range 256).all fun i=>(([0,1,2,2,3,3,3,3,4,4,4,4,4,4,4,4,5,5,5,5,5,5,5,5,5,5,5,5,5,5,5,5,6,6,6,6,6,6,6,6,6,6,6,6,6,6,6,6,6,6,6,6,6,6,6,6,6,6,6,6,6,6,6,6,7,7,7,7,7,7,7,7,7,7,7,7,7,7,7,7,7,7,7,7,7,7,7,7,7,7,7,7,7,7,7,7,7,7,7,7,7,7,7,7,7,7,7,7,7,7,7,7,7,7,7,7,7,7,7,7,7,7,7,7,7,7,7,7,8,8,8,8,8,8,8,8,8,8,8,8,8,8,8,8,8,8,8,8,8,8,8,8,8,8,8,8,8,8,8,8,8,8,8,8,8,8,8,8,8,8,8,8,8,8,8,8,8,8,8,8,8,8,8,8,8,8,8,8,8,8,8,8,8,8,8,8,8,8,8,8,8,8,8,8,8,8,8,8,8,8,8,8,8,8,8,8,8,8,8,8,8,8,8,8,8,8,8,8,8,8,8,8,8,8,8,8,8,8,8,8,8,8,8,8,8,8,8,8,8,8,8,8,8,8,8,8]:List UInt8)[i]?.getD 0).toNat==bitsN i)=true:=by kernel_rfl
 intro i hi
 have:=List.all_eq_true.1 h i (List.mem_range.2 hi)
 exact eq_of_beq this

set_option maxHeartbeats 1000000 in
theorem o_dx (x:Nat) (hx:x<18446744073709551616):Eqn Tryz.prog o_8z [.d (.int .u64 x)] [] (.d (.int .i64 (bitsN x))) []:=by
 refine Eqn.pure o_91 (o_6a _) ?_
 refine cc (c':=?z27) ?_ ?_
 case refine_1=>cbv<;>exact rfl
 obtain ⟨x1,n1,h1,hx1,hn1,e1⟩:∃x1 n1:Nat,(x1,n1)=(if 4294967296≤x then (x/4294967296,32) else (x,0))∧x1<4294967296∧n1≤32∧bitsN x=n1+bitsN x1:=by
  by_cases h:4294967296≤x
  ·exact ⟨x/4294967296,32,by rw [if_pos h],by omega,by omega,o_dv (k:=32) h⟩
  ·exact ⟨x,0,by rw [if_neg h],by omega,by omega,by omega⟩
 obtain ⟨x2,n2,h2,hx2,hn2,e2⟩:∃x2 n2:Nat,(x2,n2)=(if 65536≤x1 then (x1/65536,n1+16) else (x1,n1))∧x2<65536∧n2≤48∧bitsN x=n2+bitsN x2:=by
  by_cases h:65536≤x1
  ·exact ⟨x1/65536,n1+16,by rw [if_pos h],by omega,by omega,by have:=o_dv (k:=16) h;rw [e1,this];simp;omega⟩
  ·exact ⟨x1,n1,by rw [if_neg h],by omega,by omega,by omega⟩
 obtain ⟨x3,n3,h3,hx3,hn3,e3⟩:∃x3 n3:Nat,(x3,n3)=(if 256≤x2 then (x2/256,n2+8) else (x2,n2))∧x3<256∧n3≤56∧bitsN x=n3+bitsN x3:=by
  by_cases h:256≤x2
  ·exact ⟨x2/256,n2+8,by rw [if_pos h],by omega,by omega,by have:=o_dv (k:=8) h;rw [e2,this];simp;omega⟩
  ·exact ⟨x2,n2,by rw [if_neg h],by omega,by omega,by omega⟩
 rw [e3]
 clear e1 e2 e3
 refine AW.seq (AW.reg mix ?_)
 (simp -implicitDefEqProofs;try simp (disch:=omega) only [w64,wu64])
 refine AW.cut 0 [(0,.d (.int .u64 x1)),(2,.d (.int .i64 n1))] [] (by simp) (by simp) ?_ ?_
 ·have hd:(x:Int)/4294967296=(x/4294967296:Nat):=rfl
  refine G0 ?_;try with_reducible exact tt
  refine AW.cond rfl (fun h=>?_) (fun h=>?_)
  ·rw [if_pos (by simp at h;omega)] at h1
   cases h1
   generalize x/4294967296=q at *
   refine G1 hd ?_;try with_reducible exact tt
  ·rw [if_neg (by simp at h;omega)] at h1
   cases h1
   refine G0 ?_;try with_reducible exact tt
 clear h1 hx
 simp
 refine AW.cut 0 [(0,.d (.int .u64 x2)),(2,.d (.int .i64 n2))] [] (by simp) (by simp) ?_ ?_
 ·have hd:(x1:Int)/65536=(x1/65536:Nat):=rfl
  have ew:IntKind.i64.wrap ((n1:Int)+16)=((n1+16:Nat):Int):=w64 (by omega) (by omega)
  refine G0 ?_;try with_reducible exact tt
  refine AW.cond rfl (fun h=>?_) (fun h=>?_)
  ·rw [if_pos (by simp at h;omega)] at h2
   cases h2
   generalize x1/65536=q at *
   refine G1 (fs hd ew) ?_;try with_reducible exact tt
  ·rw [if_neg (by simp at h;omega)] at h2
   cases h2
   refine G0 ?_;try with_reducible exact tt
 clear h2 hx1 hn1
 simp
 refine AW.cut 0 [(0,.d (.int .u64 x3)),(2,.d (.int .i64 n3))] [] (by simp) (by simp) ?_ ?_
 ·have hd:(x2:Int)/256=(x2/256:Nat):=rfl
  have ew:IntKind.i64.wrap ((n2:Int)+8)=((n2+8:Nat):Int):=w64 (by omega) (by omega)
  refine G0 ?_;try with_reducible exact tt
  refine AW.cond rfl (fun h=>?_) (fun h=>?_)
  ·rw [if_pos (by simp at h;omega)] at h3
   cases h3
   generalize x2/256=q at *
   refine G1 (fs hd ew) ?_;try with_reducible exact tt
  ·rw [if_neg (by simp at h;omega)] at h3
   cases h3
   refine G0 ?_;try with_reducible exact tt
 clear h3 hx2 hn2
 simp
 have ew1:IntKind.u8.wrap (x3:Int)=x3:=by rw [show IntKind.u8.wrap (x3:Int)=(x3:Int)%256 from rfl];omega
 have hb:=o_dw x3 hx3
 have hB:bitsN x3≤8:=o_du (by omega)
 have ew2:IntKind.i64.wrap (bitsN x3:Int)=bitsN x3:=w64 (by omega) (by omega)
 have ew3:IntKind.i64.wrap ((n3:Int)+bitsN x3)=(n3:Int)+bitsN x3:=w64 (by omega) (by omega)
 refine AW.seq (AW.reg mix ?_)
 simp [ew1,hb,ew2,ew3]
 refine need.of (Nat.lt_of_lt_of_le hx3 (by decide)) ?_
 refine G0 ?_;try with_reducible exact tt
end
section
open Go.RowKit
theorem o_dy (b:Bool):Eqn Tryz.prog o_8i [.d (.bool b)] [] (.d (.int .i64 (if b then 1 else 0))) []:=by
 refine Eqn.pure o_8k Plain.ok ?_
 refine cc (c':=?z32) ?_ ?_
 case refine_1=>cbv<;>exact rfl
 cases b
 ·refine A00 ?_;try with_reducible exact tt
 ·refine A00 ?_;try with_reducible exact tt
theorem o_dz (b:Nat) (hb:b≤64):Eqn Tryz.prog o_8o [.d (.int .i64 b)] [] (.d (.int .i64 (b*78913/262144:Nat))) []:=by
 refine Eqn.pure o_8q Plain.ok ?_
 refine cc (c':=?z33) ?_ ?_
 case refine_1=>cbv<;>exact rfl
 have e1:IntKind.i64.wrap ((b:Int)*78913)=((b*78913:Nat):Int):=by rw [w64 (by omega) (by omega)];omega
 have e2:((b*78913:Nat):Int)/262144=((b*78913/262144:Nat):Int):=by omega
 refine A10 (fs e1 e2) ?_;try with_reducible exact tt
def pow10V:List D:=[.int .u64 1,.int .u64 10,.int .u64 100,.int .u64 1000,.int .u64 10000,.int .u64 100000,.int .u64 1000000,.int .u64 10000000,.int .u64 100000000,.int .u64 1000000000,.int .u64 10000000000,.int .u64 100000000000,.int .u64 1000000000000,.int .u64 10000000000000,.int .u64 100000000000000,.int .u64 1000000000000000,.int .u64 10000000000000000,.int .u64 100000000000000000,.int .u64 1000000000000000000,.int .u64 10000000000000000000]
theorem o_e0:pow10V.length=20:=rfl
theorem o_e1:pow10V=(List.range 20).map fun k:Nat=>D.int .u64 ((10^k:Nat):Int):=by kernel_rfl
theorem o_e2:∀(k:Nat) (h:k<pow10V.length),pow10V[k]'h=D.int .u64 ((10^k:Nat):Int):=by
 rw [o_e1]
 intro k h
 simp
theorem o_e3 (n:Nat) (h0:0<n) (h1:n<18446744073709551616):Eqn Tryz.prog o_8r [.d (.int .u64 n)] [] (.d (.int .i64 (ndig n:Nat))) []:=by
 refine Eqn.pure o_8t Plain.ok ?_
 have hb:bitsN n≤64:=o_du (by omega)
 have hl:=o_dx n h1
 have hlt:=o_dt n
 have hb0:0<bitsN n:=by
  rcases Nat.eq_zero_or_pos (bitsN n) with h | h
  ·rw [h] at hlt;simp at hlt;omega
  ·exact h
 have hge:2^(bitsN n-1)≤n:=by
  rcases Nat.lt_or_ge n (2^(bitsN n-1)) with h | h
  ·have:=o_du h;omega
  ·exact h
 obtain ⟨g1,g2⟩:=o_dr n (bitsN n) hge hlt hb0 hb
 have hlo:=o_dz (bitsN n) hb
 generalize bitsN n*78913/262144=k at *
 have hbo:=o_dy (decide (10^k≤n))
 have hgt:=o_e2 k
 obtain ⟨t,ht⟩:∃t,t=10^k:=⟨_,rfl⟩
 rw [←ht] at hgt g2 hbo
 have hkl:k<20:=by omega
 have hki:(k:Int)<20:=by omega
 have hkl2:k<pow10V.length:=by rw [o_e0];omega
 have hge2:decide ((t:Int)≤n)=decide (t≤n):=by rw [decide_eq_decide];omega
 refine cc (c':=?z34) ?_ ?_
 case refine_1=>cbv<;>exact rfl
 rw [show [D.int .u64 1,.int .u64 10,.int .u64 100,.int .u64 1000,.int .u64 10000,.int .u64 100000,.int .u64 1000000,.int .u64 10000000,.int .u64 100000000,.int .u64 1000000000,.int .u64 10000000000,.int .u64 100000000000,.int .u64 1000000000000,.int .u64 10000000000000,.int .u64 100000000000000,.int .u64 1000000000000000,.int .u64 10000000000000000,.int .u64 100000000000000000,.int .u64 1000000000000000000,.int .u64 10000000000000000000]=pow10V from rfl]
 generalize pow10V=PV at *
 refine A00 ?_;try with_reducible exact tt
 refine CallS.pu (hl) (R0 ?_);try with_reducible exact tt
 refine CallS.pu (hlo) (R1 (fs hkl (fs hki (fs hkl2 (fs hgt hge2)))) ?_);try with_reducible exact tt
 refine CallS.pu (hbo) (R0 ?_);try with_reducible exact tt
 refine Sub1.int ?_
 rw [g2]
 by_cases h:t≤n
 ·simp only [h,if_true];omega
 ·simp only [h,if_false];omega
end
section
theorem u32N (x:Nat) (h:x<4294967296):IntKind.u32.wrap (x:Int)=x:=by rw [IntKind.wrap_u32];omega
theorem o_e4 (u k:Nat) (h0:0<k) (h:k≤4294967296):IntKind.u32.wrap ((u:Int).tmod k)=((u%k:Nat):Int):=by
 rw [Int.tmod_eq_emod_of_nonneg (by omega),←Int.natCast_emod]
 exact u32N _ (Nat.lt_of_lt_of_le (Nat.mod_lt _ h0) h)
theorem o_e5 (x k:Nat) (h:x<4294967296):IntKind.u32.wrap ((x:Int)/k)=((x/k:Nat):Int):=by
 rw [←Int.natCast_ediv]
 exact u32N _ (Nat.lt_of_le_of_lt (Nat.div_le_self _ _) h)
theorem o_e6 (x k:Nat) (h:x<18446744073709551616):IntKind.u64.wrap ((x:Int)/k)=((x/k:Nat):Int):=by
 rw [←Int.natCast_ediv]
 have:=Nat.div_le_self x k
 generalize x/k=q at *
 rw [IntKind.wrap_u64];omega
theorem modN (x k:Nat):(x:Int).tmod k=((x%k:Nat):Int):=by rw [Int.tmod_eq_emod_of_nonneg (by omega),←Int.natCast_emod]
structure D4 (x a b:Nat):Prop where
 da:IntKind.u32.wrap ((x:Int)/100)=a
 mb:(x:Int).tmod 100=b
 la:a<100
 lb:b<100
 dig:∀u,padN 4 (u*10000+x)=[48+a/10,48+a%10,48+b/10,48+b%10]
theorem d4 (x:Nat) (hx:x<10000):∃a b,D4 x a b:=by
 refine ⟨x/100,x%100,o_e5 x 100 (by omega),modN x 100,by omega,by omega,fun u=>?_⟩
 rw [o_de]
 congr 1
 ·omega
 congr 1
 ·omega
 congr 1
 ·omega
 congr 1
 omega
structure D8 (u x5 x6 x7:Nat):Prop where
 m5:IntKind.u32.wrap ((u:Int).tmod 100000000)=x5
 d6:IntKind.u32.wrap ((x5:Int)/10000)=x6
 m7:(x5:Int).tmod 10000=x7
 l6:x6<10000
 l7:x7<10000
 dig:padN 8 u=padN 4 (u/100000000*10000+x6)++padN 4 (u/10000*10000+x7)
theorem d8 (u:Nat):∃x5 x6 x7,D8 u x5 x6 x7:=by
 refine ⟨u%100000000,u%100000000/10000,u%100000000%10000,o_e4 u 100000000 (by omega) (by omega),o_e5 _ 10000 (by omega),modN _ 10000,by omega,by omega,?_⟩
 rw [show (8:Nat)=4+4 from rfl,o_dd,show u/100000000*10000+u%100000000/10000=u/10000 by omega,show u/10000*10000+u%100000000%10000=u by omega]
structure Lk (l:ByteArray) (x y z c e:Nat):Prop where
 wy:IntKind.u32.wrap ((x:Int)*2)=y
 wz:IntKind.u32.wrap ((y:Int)+1)=z
 gy:∀h,(l.data[y]'h).toNat=c
 gz:∀h,(l.data[z]'h).toNat=e
 ny:y<l.size
 nz:z<l.size
 hc:c=48+x/10
 he:e=48+x%10
theorem lk (l:ByteArray) (hl:l.size=200) (h:∀x,x<100→(l.data.toList.getD (x*2) 0).toNat=48+x/10∧(l.data.toList.getD (x*2+1) 0).toNat=48+x%10) (x:Nat) (hx:x<100):∃y z c e,Lk l x y z c e :=
 ⟨x*2,x*2+1,48+x/10,48+x%10,by rw [IntKind.wrap_u32];omega,by rw [IntKind.wrap_u32];omega,fun k=>by have:=(h x hx).1;rw [List.getD_eq_getElem?_getD,List.getElem?_eq_getElem (by simpa using k)] at this;simpa using this,fun k=>by have:=(h x hx).2;rw [List.getD_eq_getElem?_getD,List.getElem?_eq_getElem (by simpa using k)] at this;simpa using this,by omega,by omega,rfl,rfl⟩
theorem w64s (p k m:Nat) (h:p=m+k) (hp:p≤1000):IntKind.i64.wrap ((p:Int)-k)=m:=by rw [IntKind.wrap_i64];omega
end
section
open Go.RowKit
def yV (ws:List Nat):List V:=ws.map fun x:Nat=>V.d (.int .u8 x)
theorem o_e7 (ws:List Nat) (j v:Nat):(yV ws).set j (.d (.int .u8 v))=yV (ws.set j v):=by simp [yV,List.map_set]
@[simp] theorem o_e8 (ws:List Nat):(yV ws).length=ws.length:=by simp [yV]
@[simp] theorem o_e9 (n:Nat) (ws:List Nat):V.lowl n (yV ws)=true:=by induction ws<;>simp_all [yV]
@[simp] theorem o_ea (θ:Nat→Nat) (ws:List Nat):V.rens θ (yV ws)=yV ws:=by induction ws<;>simp_all [yV]
def lit2G (i:Nat):Nat:=(lit2.data.toList.getD i 0).toNat
theorem o_eb:(List.range 100).all (fun x=>lit2G (x*2)==48+x/10&&lit2G (x*2+1)==48+x%10)=true:=by kernel_rfl
theorem o_ec (x:Nat) (h:x<100):lit2G (x*2)=48+x/10∧lit2G (x*2+1)=48+x%10:=by
 have:=List.all_eq_true.1 o_eb x (by simpa using h)
 simpa using this
theorem o_ed (A R:List Nat) (m x:Nat):(yV (A++(List.replicate (m+1) 0++R))).set (A.length+m) (.d (.int .u8 x))=yV (A++(List.replicate m 0++x::R)):=by rw [o_e7,o_ds]

theorem fillF {A:List Nat} {p m:Nat} (h:p=m+1):∀(R:List Nat) (x:Nat),(yV (A++(List.replicate p 0++R))).set (A.length+m) (.d (.int .u8 x))=yV (A++(List.replicate m 0++x::R)):=by
 subst h;exact fun R x=>o_ed A R m x
def qN (n j:Nat):Nat:=n/10^(8*j)
def rN (nd j:Nat):Nat:=nd-8*j
set_option maxHeartbeats 8000000 in
theorem o_ee (n nd:Nat) (hn:n<18446744073709551616) (hnd:nd≤20) (hlt:n<10^nd) (A B:List Nat) (hA:A.length≤1000) :
  Eqn Tryz.prog o_8l [.row 0 A.length nd,.d (.int .u64 n)] [⟨163,yV (A++(List.replicate nd 0++B))⟩] (.tup []) [⟨163,yV (A++(padN nd n++B))⟩]:=by
 refine Eqn.obj1 o_8n (by exact Plain.ok) ⟨by simp,by simp⟩ ?_
 have e2:=o_d7
 refine cc (c':=?z35) ?_ ?_
 case refine_1=>cbv<;>exact rfl
 rw [show (⟨#[48,48,48,49,48,50,48,51,48,52,48,53,48,54,48,55,48,56,48,57,49,48,49,49,49,50,49,51,49,52,49,53,49,54,49,55,49,56,49,57,50,48,50,49,50,50,50,51,50,52,50,53,50,54,50,55,50,56,50,57,51,48,51,49,51,50,51,51,51,52,51,53,51,54,51,55,51,56,51,57,52,48,52,49,52,50,52,51,52,52,52,53,52,54,52,55,52,56,52,57,53,48,53,49,53,50,53,51,53,52,53,53,53,54,53,55,53,56,53,57,54,48,54,49,54,50,54,51,54,52,54,53,54,54,54,55,54,56,54,57,55,48,55,49,55,50,55,51,55,52,55,53,55,54,55,55,55,56,55,57,56,48,56,49,56,50,56,51,56,52,56,53,56,54,56,55,56,56,56,57,57,48,57,49,57,50,57,51,57,52,57,53,57,54,57,55,57,56,57,57]⟩:ByteArray)=lit2 from rfl]
 have hl2g:=o_ec
 unfold lit2G at hl2g
 generalize hl2:lit2=l2 at *
 refine A00 ?_;try with_reducible exact tt
 refine AW.loopT (α:=Nat) 1 (fun j=>[(4,.d (.int .i64 (rN nd j:Nat))),(1,.d (.int .u64 (qN n j:Nat)))]) (fun j=>[(0,⟨163,yV (A++(List.replicate (rN nd j) 0++(padN (8*j) n++B)))⟩)]) (fun j=>8*j≤nd) (fun j=>nd-8*j) 0 ?_ ?_ (by simp) ?_ ?_ ?_
 ·simp
 ·simp
 ·simp [rN,qN]
 ·simp [padN,rN,qN]
 intro j hj
 simp
 have hr0:rN nd j=nd-8*j:=rfl
 have hr1:rN nd (j+1)=nd-8*(j+1):=rfl
 have hle:qN n j≤n:=Nat.div_le_self _ _
 have hdd:qN n (j+1)=qN n j/100000000:=by rw [qN,qN,Nat.div_div_eq_div_mul,Nat.mul_succ,Nat.pow_add]
 have hpad:∀w,padN (w+8*j) n=padN w (qN n j)++padN (8*j) n:=fun w=>by rw [o_dd];rfl
 by_cases h8:8≤rN nd j
 ·have h8':(8:Int)≤(rN nd j:Nat):=by omega
  replace hpad:=hpad 8
  rw [show 8+8*j=8*(j+1) by omega] at hpad
  generalize padN (8*j) n=X at *
  generalize qN n j=u at *
  generalize rN nd j=p at *
  have hu32:∀x:Nat,x<4294967296→IntKind.u32.wrap (x:Int)=x:=fun x hx=>by rw [IntKind.wrap_u32];omega
  have hp:p≤1000:=by omega
  have hs1:8*(j+1)≤nd:=by omega
  have hs2:nd-8*(j+1)<nd-8*j:=by omega
  have du:IntKind.u64.wrap ((u:Int)/100000000)=(qN n (j+1):Nat):=by rw [hdd];exact o_e6 u 100000000 (by omega)
  generalize hu1:qN n (j+1)=u1 at du hdd ⊢
  have hpn:p≤nd:=by omega
  have hrp:rN nd (j+1)+8=p:=by omega
  clear hr0 hr1 hle
  clear hn hlt
  obtain ⟨p1,hp1⟩:∃m,p=m+1:=⟨p-1,by omega⟩
  have w1:IntKind.i64.wrap ((p:Int)-1)=p1:=w64s p 1 p1 hp1 hp
  obtain ⟨p2,hp2⟩:∃m,p=m+2:=⟨p-2,by omega⟩
  have w2:IntKind.i64.wrap ((p:Int)-2)=p2:=w64s p 2 p2 hp2 hp
  obtain ⟨p3,hp3⟩:∃m,p=m+3:=⟨p-3,by omega⟩
  have w3:IntKind.i64.wrap ((p:Int)-3)=p3:=w64s p 3 p3 hp3 hp
  obtain ⟨p4,hp4⟩:∃m,p=m+4:=⟨p-4,by omega⟩
  have w4:IntKind.i64.wrap ((p:Int)-4)=p4:=w64s p 4 p4 hp4 hp
  obtain ⟨p5,hp5⟩:∃m,p=m+5:=⟨p-5,by omega⟩
  have w5:IntKind.i64.wrap ((p:Int)-5)=p5:=w64s p 5 p5 hp5 hp
  obtain ⟨p6,hp6⟩:∃m,p=m+6:=⟨p-6,by omega⟩
  have w6:IntKind.i64.wrap ((p:Int)-6)=p6:=w64s p 6 p6 hp6 hp
  obtain ⟨p7,hp7⟩:∃m,p=m+7:=⟨p-7,by omega⟩
  have w7:IntKind.i64.wrap ((p:Int)-7)=p7:=w64s p 7 p7 hp7 hp
  obtain ⟨p8,hp8⟩:∃m,p=m+8:=⟨p-8,by omega⟩
  have w8:IntKind.i64.wrap ((p:Int)-8)=p8:=w64s p 8 p8 hp8 hp
  have f1:=fillF (A:=A) (p:=p) (m:=p1) (by omega)
  have f2:=fillF (A:=A) (p:=p1) (m:=p2) (by omega)
  have f3:=fillF (A:=A) (p:=p2) (m:=p3) (by omega)
  have f4:=fillF (A:=A) (p:=p3) (m:=p4) (by omega)
  have f5:=fillF (A:=A) (p:=p4) (m:=p5) (by omega)
  have f6:=fillF (A:=A) (p:=p5) (m:=p6) (by omega)
  have f7:=fillF (A:=A) (p:=p6) (m:=p7) (by omega)
  have f8:=fillF (A:=A) (p:=p7) (m:=p8) (by omega)
  obtain ⟨x5,x6,x7,⟨m5,d6,m7,l6,l7,dig8⟩⟩:=d8 u
  obtain ⟨a7,b7,⟨da7,mb7,la7,lb7,dig7⟩⟩:=d4 x7 l7
  obtain ⟨a6,b6,⟨da6,mb6,la6,lb6,dig6⟩⟩:=d4 x6 l6
  have hlk:=lk l2 e2 hl2g
  obtain ⟨yA,zA,cA,eA,⟨wyA,wzA,gyA,gzA,nyA,nzA,hcA,heA⟩⟩:=hlk b7 lb7
  obtain ⟨yB,zB,cB,eB,⟨wyB,wzB,gyB,gzB,nyB,nzB,hcB,heB⟩⟩:=hlk a7 la7
  obtain ⟨yC,zC,cC,eC,⟨wyC,wzC,gyC,gzC,nyC,nzC,hcC,heC⟩⟩:=hlk b6 lb6
  obtain ⟨yD,zD,cD,eD,⟨wyD,wzD,gyD,gzD,nyD,nzD,hcD,heD⟩⟩:=hlk a6 la6
  rw [dig8,dig6,dig7] at hpad
  rw [←hcA,←heA,←hcB,←heB,←hcC,←heC,←hcD,←heD] at hpad
  clear hcA heA hcB heB hcC heC hcD heD dig8 dig6 dig7 hlk
  repeat (first | refine AW.seq ?_ | refine AW.block ?_)
  refine AW.reg mix ?_
  (simp -implicitDefEqProofs [h8,h8'];try simp (disch:=omega) only [w64,wu64])
  try refine need.of (by first | omega | kernel_rfl) ?_
  refine AW.cond rfl (fun _=>?_) (fun h=>?_)
  rotate_left
  ·simp at h
  refine AW.skip ?_
  simp
  repeat (first | refine AW.seq ?_ | refine AW.block ?_)
  refine AW.reg mix ?_
  (simp -implicitDefEqProofs [m5];try simp (disch:=omega) only [w64,wu64])
  try refine need.of (by first | omega | kernel_rfl) ?_
  repeat (first | refine AW.seq ?_ | refine AW.block ?_)
  refine AW.reg mix ?_
  (simp -implicitDefEqProofs [du];try simp (disch:=omega) only [w64,wu64])
  try refine need.of (by first | omega | kernel_rfl) ?_
  repeat (first | refine AW.seq ?_ | refine AW.block ?_)
  refine AW.reg mix ?_
  (simp -implicitDefEqProofs [d6,m7];try simp (disch:=omega) only [w64,wu64])
  try refine need.of (by first | omega | kernel_rfl) ?_
  repeat (first | refine AW.seq ?_ | refine AW.block ?_)
  refine AW.reg mix ?_
  (simp -implicitDefEqProofs [da7,mb7,wyA,wyB];try simp (disch:=omega) only [w64,wu64])
  try refine need.of (by first | omega | kernel_rfl) ?_
  repeat (first | refine AW.seq ?_ | refine AW.block ?_)
  refine AW.reg mix ?_
  (simp -implicitDefEqProofs [da6,mb6,wyC,wyD];try simp (disch:=omega) only [w64,wu64])
  try refine need.of (by first | omega | kernel_rfl) ?_
  refine G1 (fs w1 (fs w2 (fs w3 (fs w4 (fs w5 (fs w6 (fs w7 (fs w8 (fs wzA (fs wzB (fs wzC (fs wzD (fs gyA (fs gyB (fs gyC (fs gyD (fs gzA (fs gzB (fs gzC (fs gzD (fs nyA (fs nyB (fs nyC (fs nyD (fs nzA (fs nzB (fs nzC (fs nzD (fs f1 (fs f2 (fs f3 (fs f4 (fs f5 (fs f6 (fs f7 f8))))))))))))))))))))))))))))))))))) ?_;try with_reducible exact tt
  refine ⟨j+1,hs1,hs2,⟨Sub1.int (by rw [hu1]),Sub1.int (by omega)⟩,Subs.of ?_⟩
  rw [hpad,show rN nd (j+1)=p8 by omega]
  simp
 ·have h8':¬(8:Int)≤(rN nd j:Nat):=by omega
  have hul:qN n j<10^rN nd j:=by
   rw [qN,hr0,Nat.div_lt_iff_lt_mul (Nat.pow_pos (by decide)),←Nat.pow_add,show nd-8*j+8*j=nd by omega]
   exact hlt
  replace hpad:=hpad (rN nd j)
  rw [show rN nd j+8*j=nd by omega] at hpad
  have hfin:padN nd n++B=padN (rN nd j) (qN n j)++(padN (8*j) n++B):=by rw [hpad,List.append_assoc]
  rw [hfin]
  have hp:rN nd j<8:=by omega
  have hpn:rN nd j≤nd:=by omega
  generalize padN (8*j) n++B=X at *
  generalize qN n j=u at *
  generalize rN nd j=p at *
  have hu7:u<10000000:=Nat.lt_of_lt_of_le hul (Nat.pow_le_pow_right (by decide) (show p≤7 by omega))
  clear hfin hpad hdd hr0 hr1 hle hn hlt hj
  have hlk:=lk l2 e2 hl2g
  have du:IntKind.u32.wrap (u:Int)=u:=u32N u (by omega)
  refine A10 (fs h8 (fs h8' du)) ?_;try with_reducible exact tt
  by_cases h4:4≤p
  ·have h4':(4:Int)≤p:=by omega
   obtain ⟨p4,hp4⟩:∃m,p=m+4:=⟨p-4,by omega⟩
   obtain ⟨p1,hp1⟩:∃m,p=m+1:=⟨p-1,by omega⟩
   obtain ⟨p2,hp2⟩:∃m,p=m+2:=⟨p-2,by omega⟩
   obtain ⟨p3,hp3⟩:∃m,p=m+3:=⟨p-3,by omega⟩
   have w1:IntKind.i64.wrap ((p:Int)-1)=p1:=w64s p 1 p1 hp1 (by omega)
   have w2:IntKind.i64.wrap ((p:Int)-2)=p2:=w64s p 2 p2 hp2 (by omega)
   have w3:IntKind.i64.wrap ((p:Int)-3)=p3:=w64s p 3 p3 hp3 (by omega)
   have w4:IntKind.i64.wrap ((p:Int)-4)=p4:=w64s p 4 p4 hp4 (by omega)
   have f1:=fillF (A:=A) (p:=p) (m:=p1) (by omega)
   have f2:=fillF (A:=A) (p:=p1) (m:=p2) (by omega)
   have f3:=fillF (A:=A) (p:=p2) (m:=p3) (by omega)
   have f4:=fillF (A:=A) (p:=p3) (m:=p4) (by omega)
   have hbU4:u/10000<10^p4:=by rw [Nat.div_lt_iff_lt_mul (by decide),show (10000:Nat)=10^4 from rfl,←Nat.pow_add,←hp4];exact hul
   have hpd4:padN p u=padN p4 (u/10000)++padN 4 (u/10000*10000+u%10000):=by rw [show u/10000*10000+u%10000=u by omega,hp4,o_dd]
   obtain ⟨x4,hx4⟩:∃b,b=u%10000:=⟨_,rfl⟩
   have m4:(u:Int).tmod 10000=x4:=by rw [hx4];exact modN u 10000
   have l4:x4<10000:=by rw [hx4];exact Nat.mod_lt _ (by decide)
   rw [←hx4] at hpd4
   obtain ⟨a7,b7,⟨da7,mb7,la7,lb7,dig7⟩⟩:=d4 x4 l4
   obtain ⟨yA,zA,cA,eA,⟨wyA,wzA,gyA,gzA,nyA,nzA,hcA,heA⟩⟩:=hlk b7 lb7
   obtain ⟨yB,zB,cB,eB,⟨wyB,wzB,gyB,gzB,nyB,nzB,hcB,heB⟩⟩:=hlk a7 la7
   rw [dig7,←hcA,←heA,←hcB,←heB] at hpd4
   have dU4:IntKind.u32.wrap ((u:Int)/10000)=(u/10000:Nat):=o_e5 u 10000 (by omega)
   have hU74:u/10000<10000000:=Nat.lt_of_le_of_lt (Nat.div_le_self _ _) hu7
   rw [hpd4]
   clear hx4 hcA heA hcB heB hpd4 dig7
   generalize u/10000=u4 at *
   clear hul hu7 du
   refine A10 (fs h4 (fs h4' (fs m4 (fs dU4 (fs da7 (fs mb7 (fs wyA (fs wyB (fs w1 (fs w2 (fs w3 (fs w4 (fs wzA (fs wzB (fs gyA (fs gyB (fs gzA (fs gzB (fs nyA (fs nyB (fs nzA (fs nzB (fs f1 (fs f2 (fs f3 f4))))))))))))))))))))))))) ?_;try with_reducible exact tt
   by_cases h2:2≤p4
   ·have h2':(2:Int)≤p4:=by omega
    obtain ⟨q1,hq1⟩:∃m,p4=m+1:=⟨p4-1,by omega⟩
    have v1:IntKind.i64.wrap ((p4:Int)-1)=q1:=w64s p4 1 q1 hq1 (by omega)
    obtain ⟨q2,hq2⟩:∃m,p4=m+2:=⟨p4-2,by omega⟩
    have v2:IntKind.i64.wrap ((p4:Int)-2)=q2:=w64s p4 2 q2 hq2 (by omega)
    have t1:=fillF (A:=A) (p:=p4) (m:=q1) (by omega)
    have t2:=fillF (A:=A) (p:=q1) (m:=q2) (by omega)
    have hbW2:u4/100<10^q2:=by rw [Nat.div_lt_iff_lt_mul (by decide),show (100:Nat)=10^2 from rfl,←Nat.pow_add,←hq2];exact hbU4
    have hpd2:padN p4 u4=padN q2 (u4/100)++padN 2 u4:=by rw [hq2,o_dd]
    rw [o_df] at hpd2
    obtain ⟨b2,hb2⟩:∃b,b=u4%100:=⟨_,rfl⟩
    have mb2:(u4:Int).tmod 100=b2:=by rw [hb2];exact modN u4 100
    have lb2:b2<100:=by rw [hb2];exact Nat.mod_lt _ (by decide)
    obtain ⟨yE,zE,cE,eE,⟨wyE,wzE,gyE,gzE,nyE,nzE,hcE,heE⟩⟩:=hlk b2 lb2
    rw [show u4/10%10=b2/10 by omega,show u4%10=b2%10 by omega,←hcE,←heE] at hpd2
    have dU2:IntKind.u32.wrap ((u4:Int)/100)=(u4/100:Nat):=o_e5 u4 100 (by omega)
    have hU72:u4/100<10000000:=Nat.lt_of_le_of_lt (Nat.div_le_self _ _) hU74
    rw [hpd2]
    clear hb2 hcE heE hpd2
    generalize u4/100=W2 at *
    clear hbU4 hU74
    refine A10 (fs h2 (fs h2' (fs mb2 (fs wyE (fs dU2 (fs v1 (fs v2 (fs wzE (fs gyE (fs gzE (fs nyE (fs nzE (fs t1 t2))))))))))))) ?_;try with_reducible exact tt
    by_cases h1:0<q2
    ·have h1':(0:Int)<q2:=by omega
     have hP1:q2=0+1:=by omega
     have hU:W2<10:=by rw [hP1] at hbW2;simpa using hbW2
     obtain ⟨c,hc⟩:∃c,c=48+W2:=⟨_,rfl⟩
     have o1:IntKind.u32.wrap (48+(W2:Int))=c:=by rw [IntKind.wrap_u32];omega
     have o2:IntKind.u8.wrap (c:Int)=c:=by rw [IntKind.wrap_u8];omega
     have f:=fillF (A:=A) (p:=q2) (m:=0) hP1
     rw [Nat.add_zero] at f
     have hnd0:(0:Int)<nd:=by omega
     have hnd1:0<nd:=by omega
     refine A10 (fs h1 (fs h1' (fs o1 (fs o2 (fs f (fs hnd0 hnd1)))))) ?_;try with_reducible exact tt
     refine Subs.of ?_
     rw [hP1,hc]
     simp [padN,Nat.mod_eq_of_lt hU]
    ·have h1':¬(0:Int)<q2:=by omega
     have hP0:q2=0:=by omega
     subst hP0
     refine A10 (fs h1 h1') ?_;try with_reducible exact tt
     exact Subs.of (by simp [padN])
   ·have h2':¬(2:Int)≤p4:=by omega
    refine A10 (fs h2 h2') ?_;try with_reducible exact tt
    by_cases h1:0<p4
    ·have h1':(0:Int)<p4:=by omega
     have hP1:p4=0+1:=by omega
     have hU:u4<10:=by rw [hP1] at hbU4;simpa using hbU4
     obtain ⟨c,hc⟩:∃c,c=48+u4:=⟨_,rfl⟩
     have o1:IntKind.u32.wrap (48+(u4:Int))=c:=by rw [IntKind.wrap_u32];omega
     have o2:IntKind.u8.wrap (c:Int)=c:=by rw [IntKind.wrap_u8];omega
     have f:=fillF (A:=A) (p:=p4) (m:=0) hP1
     rw [Nat.add_zero] at f
     have hnd0:(0:Int)<nd:=by omega
     have hnd1:0<nd:=by omega
     refine A10 (fs h1 (fs h1' (fs o1 (fs o2 (fs f (fs hnd0 hnd1)))))) ?_;try with_reducible exact tt
     refine Subs.of ?_
     rw [hP1,hc]
     simp [padN,Nat.mod_eq_of_lt hU]
    ·have h1':¬(0:Int)<p4:=by omega
     have hP0:p4=0:=by omega
     subst hP0
     refine A10 (fs h1 h1') ?_;try with_reducible exact tt
     exact Subs.of (by simp [padN])
  ·have h4':¬(4:Int)≤p:=by omega
   refine A10 (fs h4 h4') ?_;try with_reducible exact tt
   by_cases h2:2≤p
   ·have h2':(2:Int)≤p:=by omega
    obtain ⟨q1,hq1⟩:∃m,p=m+1:=⟨p-1,by omega⟩
    have v1:IntKind.i64.wrap ((p:Int)-1)=q1:=w64s p 1 q1 hq1 (by omega)
    obtain ⟨q2,hq2⟩:∃m,p=m+2:=⟨p-2,by omega⟩
    have v2:IntKind.i64.wrap ((p:Int)-2)=q2:=w64s p 2 q2 hq2 (by omega)
    have t1:=fillF (A:=A) (p:=p) (m:=q1) (by omega)
    have t2:=fillF (A:=A) (p:=q1) (m:=q2) (by omega)
    have hbW2:u/100<10^q2:=by rw [Nat.div_lt_iff_lt_mul (by decide),show (100:Nat)=10^2 from rfl,←Nat.pow_add,←hq2];exact hul
    have hpd2:padN p u=padN q2 (u/100)++padN 2 u:=by rw [hq2,o_dd]
    rw [o_df] at hpd2
    obtain ⟨b2,hb2⟩:∃b,b=u%100:=⟨_,rfl⟩
    have mb2:(u:Int).tmod 100=b2:=by rw [hb2];exact modN u 100
    have lb2:b2<100:=by rw [hb2];exact Nat.mod_lt _ (by decide)
    obtain ⟨yE,zE,cE,eE,⟨wyE,wzE,gyE,gzE,nyE,nzE,hcE,heE⟩⟩:=hlk b2 lb2
    rw [show u/10%10=b2/10 by omega,show u%10=b2%10 by omega,←hcE,←heE] at hpd2
    have dU2:IntKind.u32.wrap ((u:Int)/100)=(u/100:Nat):=o_e5 u 100 (by omega)
    have hU72:u/100<10000000:=Nat.lt_of_le_of_lt (Nat.div_le_self _ _) hu7
    rw [hpd2]
    clear hb2 hcE heE hpd2
    generalize u/100=W2 at *
    clear hul hu7
    refine A10 (fs h2 (fs h2' (fs mb2 (fs wyE (fs dU2 (fs v1 (fs v2 (fs wzE (fs gyE (fs gzE (fs nyE (fs nzE (fs t1 t2))))))))))))) ?_;try with_reducible exact tt
    by_cases h1:0<q2
    ·have h1':(0:Int)<q2:=by omega
     have hP1:q2=0+1:=by omega
     have hU:W2<10:=by rw [hP1] at hbW2;simpa using hbW2
     obtain ⟨c,hc⟩:∃c,c=48+W2:=⟨_,rfl⟩
     have o1:IntKind.u32.wrap (48+(W2:Int))=c:=by rw [IntKind.wrap_u32];omega
     have o2:IntKind.u8.wrap (c:Int)=c:=by rw [IntKind.wrap_u8];omega
     have f:=fillF (A:=A) (p:=q2) (m:=0) hP1
     rw [Nat.add_zero] at f
     have hnd0:(0:Int)<nd:=by omega
     have hnd1:0<nd:=by omega
     refine A10 (fs h1 (fs h1' (fs o1 (fs o2 (fs f (fs hnd0 hnd1)))))) ?_;try with_reducible exact tt
     refine Subs.of ?_
     rw [hP1,hc]
     simp [padN,Nat.mod_eq_of_lt hU]
    ·have h1':¬(0:Int)<q2:=by omega
     have hP0:q2=0:=by omega
     subst hP0
     refine A10 (fs h1 h1') ?_;try with_reducible exact tt
     exact Subs.of (by simp [padN])
   ·have h2':¬(2:Int)≤p:=by omega
    refine A10 (fs h2 h2') ?_;try with_reducible exact tt
    by_cases h1:0<p
    ·have h1':(0:Int)<p:=by omega
     have hP1:p=0+1:=by omega
     have hU:u<10:=by rw [hP1] at hul;simpa using hul
     obtain ⟨c,hc⟩:∃c,c=48+u:=⟨_,rfl⟩
     have o1:IntKind.u32.wrap (48+(u:Int))=c:=by rw [IntKind.wrap_u32];omega
     have o2:IntKind.u8.wrap (c:Int)=c:=by rw [IntKind.wrap_u8];omega
     have f:=fillF (A:=A) (p:=p) (m:=0) hP1
     rw [Nat.add_zero] at f
     have hnd0:(0:Int)<nd:=by omega
     have hnd1:0<nd:=by omega
     refine A10 (fs h1 (fs h1' (fs o1 (fs o2 (fs f (fs hnd0 hnd1)))))) ?_;try with_reducible exact tt
     refine Subs.of ?_
     rw [hP1,hc]
     simp [padN,Nat.mod_eq_of_lt hU]
    ·have h1':¬(0:Int)<p:=by omega
     have hP0:p=0:=by omega
     subst hP0
     refine A10 (fs h1 h1') ?_;try with_reducible exact tt
     exact Subs.of (by simp [padN])
end
section
open Go.RowKit
@[simp] theorem o_ef:∀l:List Nat,intsV (yV l)=some (l.map fun n:Nat=>(n:Int))
 | []=>rfl
 | x::l=>by
  have:=o_ef l
  unfold yV at this ⊢
  rw [List.map_cons,intsV,this]
  rfl
theorem o_eg (l:List Nat):strOf (l.map fun n:Nat=>(n:Int))=bst l:=by
 unfold strOf bst
 rw [List.map_map]
 congr 1
theorem o_eh:((List.range 10).all fun n=>(lit1.extract n (n+1)).data.toList==[UInt8.ofNat (48+n)])=true∧((List.range 100).all fun n=>n<10 || (lit2.extract (n*2) (n*2+2)).data.toList==[UInt8.ofNat (48+n/10),UInt8.ofNat (48+n%10)])=true:=⟨by kernel_rfl,by kernel_rfl⟩
theorem o_ei (n:Nat) (h:n<100):smallS n=txt n:=by
 have key:∀(s:ByteArray) (l:List UInt8),s.data.toList=l→s=⟨l.toArray⟩:=by
  rintro ⟨a⟩ l rfl
  rfl
 unfold smallS
 split
 ·rename_i h10
  have:=List.all_eq_true.1 o_eh.1 n (by simpa using h10)
  simp only [beq_iff_eq] at this
  rw [key _ _ this,txt,decN,ndig,if_pos h10]
  simp [padN,bst,Nat.mod_eq_of_lt h10]
 ·rename_i h10
  have:=List.all_eq_true.1 o_eh.2 n (by simpa using h)
  simp only [h10,decide_false,Bool.false_or,beq_iff_eq] at this
  have h1:n/10<10:=by omega
  rw [key _ _ this,txt,decN,ndig,if_neg h10,ndig,if_pos h1]
  simp [padN,bst,Nat.mod_eq_of_lt h1]
theorem o_ej (n:Nat) (hn:n<18446744073709551616):Eqn Tryz.prog o_8c [.d (.int .u64 n),.d (.int .i64 10)] [] (.d (.str (txt n))) []:=by
 by_cases h100:n<100
 ·rw [←o_ei n h100];exact o_db n h100
 refine Eqn.pure o_8e (o_6a _) ?_
 refine cc (c':=?z36) ?_ ?_
 case refine_1=>cbv<;>exact rfl
 have h1:¬(n:Int)<100:=by omega
 have hnd:=o_e3 n (by omega) hn
 have hlt:=o_dj n
 have hle:=o_dk n 20 (Nat.lt_trans hn (by decide)) (by decide)
 have htx:txt n=bst (padN (ndig n) n):=rfl
 rw [htx]
 generalize ndig n=nd at *
 have hf:=o_ee n nd hn hle hlt [] (List.replicate (24-nd) 0) (by simp)
 have hz:yV ([]++(List.replicate nd 0++List.replicate (24-nd) 0))=List.replicate 24 (V.d (.int .u8 0)):=by
  rw [List.nil_append,List.replicate_append_replicate,show nd+(24-nd)=24 by omega];rfl
 rw [hz] at hf
 rw [List.nil_append,List.length_nil] at hf
 have htk:(yV (padN nd n++List.replicate (24-nd) 0)).take nd=yV (padN nd n):=by
  unfold yV
  rw [List.map_append,List.take_append_of_le_length (by rw [List.length_map,o_dc];exact Nat.le_refl _),List.take_of_length_le (by rw [List.length_map,o_dc];exact Nat.le_refl _)]
 have hln:(padN nd n).length=nd:=o_dc _ _
 have hst:=o_eg (padN nd n)
 have hni:(nd:Int)≤24:=by omega
 refine A10 (fs h100 h1) ?_;try with_reducible exact tt
 refine CallS.pu (hnd) (R1 hni ?_);try with_reducible exact tt
 refine CallS.g [0] (hf) (R1 (fs hni (fs htk (fs hln hst))) ?_);try with_reducible exact tt
 done
end
section
open Go.RowKit
end
section
open Go.RowKit
end
section
open Go.RowKit
end
section
open Go.RowKit
end
section
open Go.RowKit
@[simp] theorem o_ek:ByteArray.size ⟨#[48]⟩=1:=rfl
end
section
open Go.RowKit
theorem o_el:txt 0=⟨#[48]⟩:=by rw [txt,decN,ndig];rfl
def wN (a i:Nat):Nat:=a/10^(18*i)
end
section

end
section
open Go.RowKit
end
section
open Go.RowKit
end
section
open Go.RowKit
end
section
open Go.RowKit
end
section
theorem o_em (z:Int) (d:Nat) (hd:0<d):(mkRat z d).num.natAbs=z.natAbs/Nat.gcd z.natAbs d∧(mkRat z d).den=d/Nat.gcd z.natAbs d∧((mkRat z d).num<0↔z<0):=by
 have hg:0<Nat.gcd z.natAbs d:=Nat.gcd_pos_of_pos_right _ hd
 rw [Rat.mkRat_def,dif_neg (by omega),Rat.normalize_eq]
 have hdv:((Nat.gcd z.natAbs d:Nat):Int)∣z:=Int.ofNat_dvd_left.2 (Nat.gcd_dvd_left _ _)
 refine ⟨?_,rfl,?_⟩
 ·show (z/((Nat.gcd z.natAbs d:Nat):Int)).natAbs=_
  rw [Int.natAbs_ediv_of_dvd hdv,Int.natAbs_natCast]
 ·show z/((Nat.gcd z.natAbs d:Nat):Int)<0↔z<0
  obtain ⟨k,hk⟩:=hdv
  have hg':0<((Nat.gcd z.natAbs d:Nat):Int):=by omega
  generalize ((Nat.gcd z.natAbs d:Nat):Int)=g at *
  rw [hk,Int.mul_ediv_cancel_left _ (by omega)]
  constructor
  ·intro h;exact Int.mul_neg_of_pos_of_neg hg' h
  ·intro h
   rcases Int.lt_or_le k 0 with h1 | h1
   ·exact h1
   ·have:=Int.mul_nonneg (Int.le_of_lt hg') h1;omega
theorem o_en (x y:Rat):x+y=mkRat (x.num*y.den+y.num*x.den) (x.den*y.den):=Rat.add_def' x y
theorem o_eo (x y:Rat):x*y=mkRat (x.num*y.num) (x.den*y.den):=Rat.mul_def' x y
end
section
open Go.RowKit
theorem o_ep (a b:Nat):size (a*b)≤size a+size b:=by
 refine o_cr (o_cw _) ?_
 rw [o_cu,Nat.pow_add]
 have ha:=o_co (o_cv a)
 have hb:=o_co (o_cv b)
 rw [o_cu] at ha hb
 unfold size
 exact Nat.mul_lt_mul'' ha hb
theorem o_eq (a b:Nat):size (a+b)≤max (size a) (size b)+1:=by
 refine o_cr (o_cw _) ?_
 rw [o_cu,Nat.pow_succ]
 have ha:=o_co (o_cv a)
 have hb:=o_co (o_cv b)
 rw [o_cu] at ha hb
 have h1:18446744073709551616^(words a).length≤18446744073709551616^max (size a) (size b):=Nat.pow_le_pow_right (by decide) (Nat.le_max_left _ _)
 have h2:18446744073709551616^(words b).length≤18446744073709551616^max (size a) (size b):=Nat.pow_le_pow_right (by decide) (Nat.le_max_right _ _)
 omega
end
section
open Go.RowKit
def RS (q:Rat) (N:Nat):Prop:=size q.num.natAbs≤N∧size q.den≤N
theorem RS.le {q:Rat} {N M:Nat} (h:RS q N) (hm:N≤M):RS q M:=⟨Nat.le_trans h.1 hm,Nat.le_trans h.2 hm⟩
theorem RS.mk' {z:Int} {d N:Nat} (hd:0<d) (h1:size z.natAbs≤N) (h2:size d≤N):RS (mkRat z d) N:=by
 obtain ⟨p1,p2,-⟩:=o_em z d hd
 refine ⟨?_,?_⟩
 ·rw [p1];exact Nat.le_trans (o_d4 (Nat.div_le_self _ _)) h1
 ·rw [p2];exact Nat.le_trans (o_d4 (Nat.div_le_self _ _)) h2
theorem RS.mul {x y:Rat} {N M:Nat} (hx:RS x N) (hy:RS y M):RS (x*y) (N+M):=by
 rw [o_eo]
 refine RS.mk' (Nat.mul_pos x.den_pos y.den_pos) ?_ ?_
 ·rw [Int.natAbs_mul];have:=o_ep x.num.natAbs y.num.natAbs;have:=hx.1;have:=hy.1;omega
 ·have:=o_ep x.den y.den;have:=hx.2;have:=hy.2;omega
theorem RS.add {x y:Rat} {N M:Nat} (hx:RS x N) (hy:RS y M):RS (x+y) (N+M+1):=by
 rw [o_en]
 refine RS.mk' (Nat.mul_pos x.den_pos y.den_pos) ?_ ?_
 ·have h1:=o_d4 (Int.natAbs_add_le (x.num*y.den) (y.num*x.den))
  have h2:=o_eq (x.num*y.den).natAbs (y.num*x.den).natAbs
  rw [Int.natAbs_mul,Int.natAbs_mul,Int.natAbs_natCast,Int.natAbs_natCast] at *
  have h3:=o_ep x.num.natAbs y.den
  have h4:=o_ep y.num.natAbs x.den
  have:=hx.1;have:=hy.1;have:=hx.2;have:=hy.2
  omega
 ·have:=o_ep x.den y.den;have:=hx.2;have:=hy.2;omega
theorem RS.neg {x:Rat} {N:Nat} (hx:RS x N):RS (-x) N:=by
 refine ⟨?_,?_⟩
 ·rw [Rat.neg_num,Int.natAbs_neg];exact hx.1
 ·rw [Rat.neg_den];exact hx.2
theorem RS.sub {x y:Rat} {N M:Nat} (hx:RS x N) (hy:RS y M):RS (x-y) (N+M+1):=by
 rw [Rat.sub_eq_add_neg];exact hx.add hy.neg

theorem o_er {I:Nat→Prop} {w:World} {v:Value} (h:D.rep I w .nilsl v):D.rep I w (natW 0) v:=by
 have:=Sub1.nil (⟨fun _=>none,I,w⟩:Mem) v (by rw [V.rep_d];exact h)
 rw [V.rep_d] at this
 exact this
theorem Sub1.rat0 {x y:D}:Sub1 (.d (.agg [x,y,.nilsl])) (.d (.agg [x,y,natW 0])):=fun m v k=>by
 rw [V.rep_d] at k ⊢
 unfold D.rep at k ⊢
 obtain ⟨vs,h1,h0,h2⟩:=k
 refine ⟨vs,h1,h0,?_⟩
 obtain ⟨a,r,rfl,ha,h2⟩:=D.reps_cons'.1 h2
 obtain ⟨b,r,rfl,hb,h2⟩:=D.reps_cons'.1 h2
 obtain ⟨c,r,rfl,hc,h2⟩:=D.reps_cons'.1 h2
 exact D.reps_cons.2 ⟨ha,D.reps_cons.2 ⟨hb,D.reps_cons.2 ⟨o_er hc,h2⟩⟩⟩
end
section
open Go.RowKit
end
section
open Go.RowKit
end
section
open Go.RowKit
end
section
open Go.RowKit
end
section
open Go.RowKit
end
section
open Go.RowKit
end
section
open Go.RowKit
end
section
def dval:List Nat→Nat
 | []=>0
 | x::l=>x+10000*dval l
def dsmall (ws:List Nat):Prop:=∀x∈ws,x<10000

theorem o_es:∀(a b:List Nat),dval (a++b)=dval a+10000^a.length*dval b:=by
 intro a
 induction a with
 | nil=>intro b;simp [dval]
 | cons x a ih=>intro b;simp only [List.cons_append,dval,List.length_cons];rw [ih,Nat.pow_succ,Nat.mul_add,←Nat.mul_assoc,Nat.mul_comm 10000 (10000^a.length)];omega
theorem o_et:∀n,dval (List.replicate n 0)=0:=by
 intro n
 induction n with
 | zero=>rfl
 | succ n ih=>rw [List.replicate_succ,dval,ih]
theorem o_eu:∀{ws:List Nat},dsmall ws→dval ws<10000^ws.length:=by
 intro ws
 induction ws with
 | nil=>intro _;simp [dval]
 | cons x l ih =>
  intro h
  have h1:=h x (by simp)
  have h2:=ih (fun y hy=>h y (by simp [hy]))
  rw [dval,List.length_cons,Nat.pow_succ]
  omega

theorem o_ev (ws:List Nat):∀n,n≤ws.length→dval (ws.take (trimN ws n))=dval (ws.take n):=by
 intro n
 induction n with
 | zero=>intro _;rfl
 | succ n ih =>
  intro h
  unfold trimN
  split
  ·rename_i h0
   rw [ih (by omega),o_cp _ _ (by omega),o_es,h0]
   simp [dval]
  ·rfl
theorem dsmall.take {ws:List Nat} (h:dsmall ws) (n:Nat):dsmall (ws.take n):=fun x hx=>h x (List.mem_of_mem_take hx)

theorem o_ew {ws:List Nat} (h:dsmall ws) (ht:top1 ws) (h0:dval ws=0):ws=[]:=by
 rcases ws.eq_nil_or_concat with rfl | ⟨l,x,rfl⟩
 ·rfl
 ·exfalso
  have:=ht l.length (by simp)
  simp at this
  simp [o_es,dval] at h0
  rcases Nat.mul_eq_zero.1 h0.2 with h | h
  ·exact absurd h (Nat.pos_iff_ne_zero.1 (Nat.pow_pos (by decide)))
  ·exact this h

theorem o_ex:∀{a b:List Nat},dsmall a→dsmall b→top1 a→top1 b→dval a=dval b→a=b:=by
 intro a
 induction a with
 | nil=>intro b _ hb _ tb h;exact (o_ew hb tb h.symm).symm
 | cons x a ih =>
  intro b ha hb ta tb h
  cases b with
  | nil=>exact absurd (o_ew ha ta h) (by simp)
  | cons y b =>
   have h1:=ha x (by simp)
   have h2:=hb y (by simp)
   simp only [dval] at h
   have e:x=y:=by omega
   subst e
   have e2:dval a=dval b:=by omega
   have e3:a=b:=ih (fun z hz=>ha z (by simp [hz])) (fun z hz=>hb z (by simp [hz])) (fun k hk=>by have:=ta (k+1) (by simp [hk]);simpa using this) (fun k hk=>by have:=tb (k+1) (by simp [hk]);simpa using this) e2
   rw [e3]

theorem o_ey:∀{ws:List Nat} {m:Nat},top1 ws→dval ws<10000^m→ws.length≤m:=by
 intro ws
 induction ws with
 | nil=>intro m _ _;exact Nat.zero_le _
 | cons x l ih =>
  intro m ht h
  cases m with
  | zero =>
   exfalso
   rw [Nat.pow_zero] at h
   rw [dval] at h
   cases l with
   | nil =>
    have:=ht 0 rfl
    simp [dval] at this h
    omega
   | cons y l =>
    have hw:dval (y::l)=0:=by omega
    have:(y::l).length≤0:=ih (m:=0) (fun k hk=>by have:=ht (k+1) (by simp [hk]);simpa using this) (by rw [hw];decide)
    simp at this
  | succ m =>
   rw [List.length_cons]
   have:l.length≤m:=by
    cases l with
    | nil=>exact Nat.zero_le _
    | cons y l =>
     refine ih (fun k hk=>by have:=ht (k+1) (by simp [hk]);simpa using this) ?_
     rw [dval,Nat.pow_succ] at h
     omega
   omega

theorem o_ez (f:Nat→Nat) (n:Nat):dval ((List.range (n+1)).map f)=dval ((List.range n).map f)+10000^n*f n:=by
 rw [List.range_succ,List.map_append,o_es]
 simp [dval]
theorem o_f0 (l:List Nat) (n:Nat):dval (l.take (n+1))=dval (l.take n)+10000^n*l.getD n 0:=by
 by_cases h:n<l.length
 ·rw [o_cp _ _ h,o_es,List.length_take,Nat.min_eq_left (Nat.le_of_lt h)]
  simp [dval]
 ·rw [List.take_of_length_le (by omega),List.take_of_length_le (by omega)]
  simp [List.getD,List.getElem?_eq_none (show l.length≤n by omega)]

def carryD (a b:List Nat):Nat→Nat
 | 0=>0
 | n+1=>(a.getD n 0+b.getD n 0+carryD a b n)/10000
def addD (a b:List Nat) (n:Nat):Nat:=(a.getD n 0+b.getD n 0+carryD a b n)%10000

theorem dsmall.getD {l:List Nat} (h:dsmall l) (n:Nat):l.getD n 0<10000:=by
 by_cases hn:n<l.length
 ·rw [List.getD,List.getElem?_eq_getElem hn];exact h _ (List.getElem_mem hn)
 ·simp [List.getD,List.getElem?_eq_none (show l.length≤n by omega)]
theorem o_f1 {a b:List Nat} (ha:dsmall a) (hb:dsmall b):∀n,carryD a b n≤1:=by
 intro n
 induction n with
 | zero=>exact Nat.zero_le _
 | succ n ih =>
  have h1:=ha.getD n
  have h2:=hb.getD n
  simp only [carryD]
  omega
theorem o_f2 (a b:List Nat):∀n,dval ((List.range n).map (addD a b))+10000^n*carryD a b n=dval (a.take n)+dval (b.take n):=by
 intro n
 induction n with
 | zero=>simp [dval,carryD]
 | succ n ih =>
  rw [o_ez,o_f0,o_f0]
  have:=Nat.div_add_mod (a.getD n 0+b.getD n 0+carryD a b n) 10000
  simp only [addD,carryD]
  rw [Nat.pow_succ]
  generalize 10000^n=P at *
  generalize (a.getD n 0+b.getD n 0+carryD a b n)/10000=q at *
  generalize (a.getD n 0+b.getD n 0+carryD a b n)%10000=r at *
  have e:P*(10000*q+r)=P*a.getD n 0+P*b.getD n 0+P*carryD a b n:=by rw [this];simp [Nat.mul_add]
  rw [Nat.mul_add,←Nat.mul_assoc] at e
  omega

def borrowD (a b:List Nat):Nat→Nat
 | 0=>0
 | n+1=>if a.getD n 0<b.getD n 0+borrowD a b n then 1 else 0
def subD (a b:List Nat) (n:Nat):Nat:=(a.getD n 0+10000-b.getD n 0-borrowD a b n)%10000
theorem o_f3 (a b:List Nat):∀n,borrowD a b n≤1:=by
 intro n
 cases n with
 | zero=>exact Nat.zero_le _
 | succ n=>simp only [borrowD];split<;>omega
theorem o_f4 {a b:List Nat} (ha:dsmall a) (hb:dsmall b):∀n,dval ((List.range n).map (subD a b))+dval (b.take n)=dval (a.take n)+10000^n*borrowD a b n:=by
 intro n
 induction n with
 | zero=>simp [dval,borrowD]
 | succ n ih =>
  rw [o_ez,o_f0,o_f0]
  have h1:=ha.getD n
  have h2:=hb.getD n
  have h3:=o_f3 a b n
  have e:subD a b n+b.getD n 0+borrowD a b n=a.getD n 0+10000*borrowD a b (n+1):=by
   simp only [subD,borrowD]
   split<;>omega
  rw [Nat.pow_succ,Nat.mul_assoc]
  generalize 10000^n=P at *
  have e2:P*subD a b n+P*b.getD n 0+P*borrowD a b n=P*a.getD n 0+P*(10000*borrowD a b (n+1)):=by rw [←Nat.mul_add,←Nat.mul_add,e,Nat.mul_add]
  omega
theorem o_f5 {f:Nat→Nat} (h:∀i,f i<10000) (n:Nat):dsmall ((List.range n).map f):=by
 intro x hx
 obtain ⟨i,_,rfl⟩:=List.mem_map.1 hx
 exact h i
theorem o_f6 (a b:List Nat) (i:Nat):addD a b i<10000:=Nat.mod_lt _ (by decide)
theorem o_f7 (a b:List Nat) (i:Nat):subD a b i<10000:=Nat.mod_lt _ (by decide)

theorem o_f8 {a b:List Nat} (ha:dsmall a) (hb:top1 b) (h:a.length<b.length):dval a<dval b:=by
 refine Nat.lt_of_lt_of_le (o_eu ha) ?_
 apply Nat.le_of_not_lt
 intro hlt
 have:=o_ey hb hlt
 omega
theorem o_f9 {l:List Nat} (h:dsmall l) (n:Nat):dval (l.take n)<10000^n:=by
 have:=o_eu (h.take n)
 rw [List.length_take] at this
 exact Nat.lt_of_lt_of_le this (Nat.pow_le_pow_right (by decide) (Nat.min_le_left _ _))
theorem o_fa {a b:List Nat} (ha:dsmall a) (hb:dsmall b):∀n,cmpN a b n=if dval (a.take n)<dval (b.take n) then -1 else if dval (b.take n)<dval (a.take n) then 1 else 0:=by
 intro n
 induction n with
 | zero=>simp [cmpN,dval]
 | succ n ih =>
  rw [o_f0,o_f0]
  have h1:=o_f9 ha n
  have h2:=o_f9 hb n
  simp only [cmpN]
  generalize 10000^n=P at *
  generalize a.getD n 0=x at *
  generalize b.getD n 0=y at *
  by_cases hxy:x<y
  ·rw [if_pos hxy,if_pos]
   have:P*(x+1)≤P*y:=Nat.mul_le_mul_left _ hxy
   rw [Nat.mul_add] at this
   omega
  ·rw [if_neg hxy]
   by_cases hyx:y<x
   ·have:P*(y+1)≤P*x:=Nat.mul_le_mul_left _ hyx
    rw [Nat.mul_add] at this
    rw [if_pos hyx,if_neg (by omega),if_pos (by omega)]
   ·obtain rfl:x=y:=by omega
    rw [if_neg hyx,ih]
    simp only [Nat.add_lt_add_iff_right]

def decsF:Nat→Nat→List Nat
 | 0,_=>[]
 | f+1,n=>if n=0 then [] else (n%10000)::decsF f (n/10000)
def decs (n:Nat):List Nat:=decsF n n

theorem o_fb:∀(f n:Nat),n≤f→dval (decsF f n)=n∧dsmall (decsF f n)∧top1 (decsF f n)
 | 0,n,h=>by
  obtain rfl:n=0:=by omega
  exact ⟨rfl,by simp [dsmall,decsF],by intro k hk;simp [decsF] at hk⟩
 | f+1,n,h=>by
  by_cases h0:n=0
  ·subst h0
   simp only [decsF,if_true]
   exact ⟨rfl,by simp [dsmall],by intro k hk;simp at hk⟩
  ·obtain ⟨h1,h2,h3⟩:=o_fb f (n/10000) (by omega)
   simp only [decsF,if_neg h0]
   refine ⟨by simp only [dval,h1];omega,fun x hx=>?_,fun k hk=>?_⟩
   ·rcases List.mem_cons.1 hx with rfl | hx
    ·omega
    ·exact h2 x hx
   ·cases hl:decsF f (n/10000) with
    | nil =>
     rw [hl] at h1 hk
     simp [dval] at h1 hk
     subst hk
     simp;omega
    | cons y r =>
     rw [hl] at hk h3
     simp at hk
     subst hk
     have:=h3 r.length rfl
     simpa using this
theorem o_fc (n:Nat):dval (decs n)=n:=(o_fb n n (Nat.le_refl _)).1
theorem o_fd (n:Nat):dsmall (decs n):=(o_fb n n (Nat.le_refl _)).2.1
theorem o_fe (n:Nat):top1 (decs n):=(o_fb n n (Nat.le_refl _)).2.2
theorem o_ff {ws:List Nat} (h:dsmall ws) (ht:top1 ws):decs (dval ws)=ws:=o_ex (o_fd _) h (o_fe _) ht (o_fc _)
theorem o_fg {n:Nat}:decs n=[]↔n=0:=by
 constructor
 ·intro h;have:=o_fc n;rw [h] at this;exact this.symm
 ·rintro rfl;rfl


def sizeD (n:Nat):Nat:=(decs n).length
end
section
open Go.RowKit
end
section
open Go.RowKit
end
section
open Go.RowKit
def C.l:C→C
 | .seq a _=>a
 | c=>c
def C.r:C→C
 | .seq _ b=>b
 | c=>c
def C.b:C→C
 | .block _ a | .loop a=>a
 | c=>c
def C.os:C→List O
 | .reg _ l=>l
 | _=>[]
end
section
open Go.RowKit
theorem Sat.put {m:Mem} {a:Act} {T:List V} {H:List (Option Ob)} (sat:Sat m a T H) (s:Nat) {x:V} {v:Value} (hv:x.rep m v):Sat m (a.put (some s) v) (T.set s x) H:=by
 refine ⟨sat.base,fun i=>?_,sat.obj,sat.inj,sat.top,by rw [o_54];simpa using sat.size,by rw [o_55];exact sat.defers⟩
 have h1:T.set s x=putT T (some s) x:=rfl
 rw [h1,o_56,o_53,sat.size]
 split
 ·exact hv
 ·exact sat.slots i
end
section
open Go.RowKit
def zD:List D:=[.int .i64 0,.int .i64 0,.nilsl,.nilsl]
end
section
open Go.RowKit
theorem Sub1.aggd {l r:List D} (h:Subs (l.map V.d) (r.map V.d)):Sub1 (.d (.agg l)) (.d (.agg r)):=fun m v k=>by
 rw [V.rep_d] at k ⊢
 unfold D.rep at k ⊢
 obtain ⟨vs,h1,h2,h3⟩:=k
 exact ⟨vs,h1,h2,V.reps_map_d.1 (h m vs (V.reps_map_d.2 h3))⟩
end
section
open Go.RowKit
end
section
open Go.RowKit
def p2 (n:Nat):Nat:=2^n
end
section
open Go.RowKit
end
section
open Go.RowKit
end
section
open Go.RowKit
end
section
open Go.RowKit
end
section
open Go.RowKit
end
section
open Go.RowKit
end
section

end
section
open Go.RowKit
end
section
open Go.RowKit
end
section
open Go.RowKit
end
section
open Go.RowKit
end
section
open Go.RowKit
end
section
open Go.RowKit
end
section
open Go.RowKit
structure Live (p:Nat) (R:Bool×Int×Nat×Bool):Prop where
 err:R.2.1=0∨R.2.1=8
 dead:R.2.2.2=true↔R.2.1≠0
 no:R.2.1≠0→R.1=false
 le:p≤R.2.2.1

theorem Live.mono {p q:Nat} {R:Bool×Int×Nat×Bool} (h:Live q R) (hq:p≤q):Live p R:=⟨h.err,h.dead,h.no,Nat.le_trans hq h.le⟩
theorem Live.ok {p:Nat} {R:Bool×Int×Nat×Bool} (h:Live p R) (h1:R.2.1=0):R.2.2.2=false:=by
 cases hd:R.2.2.2 with
 | false=>rfl
 | true=>exact absurd h1 (h.dead.1 hd)
end
section
open Go.RowKit
end
section
open Go.RowKit
end
section
open Go.RowKit
end
section

end
section
open Go.RowKit
end
section
open Go.RowKit
end
section
open Go.RowKit
end
section
open Go.RowKit
end
section

end
section
open Go.RowKit
end
section
open Go.RowKit
end
section
open Go.RowKit
end
section
open Go.RowKit
end
section
open Go.RowKit
end
section
open Go.RowKit
end
section

end
section
open Go.RowKit
end
section
open Go.RowKit
end
section
open Go.RowKit
end
section
open Go.RowKit
end
section
open Go.RowKit
end
section
open Go.RowKit
theorem o_fh (n s:Nat) (ds:List D) (l:List D):V.frzs n s ds (l.map V.d)=l.map V.d:=by
 rw [o_65];simp [V.frz]
end
section
open Go.RowKit
section
variable {P:Program} {L:Nat} {Q:Exit→List V→List (Option Ob)→Prop} {T:List V} {H:List (Option Ob)} {x:C}
def AWu (P:Program) (L:Nat) (x:C) (Q:Exit→List V→List (Option Ob)→Prop):Nat→List V→List (Option Ob)→Prop
 | 0,_,_=>False
 | n+1,T,H=>AW P L x (thenQ (AWu P L x Q n) Q) T H
theorem AW.rounds (n:Nat) (h:AWu P L x Q n T H):AW P L (.loop x) Q T H:=by
 refine AW.loop (fun k T H=>AWu P L x Q k T H) n h fun k T H hk=>?_
 cases k with
 | zero=>exact hk.elim
 | succ k =>
  refine AW.mono hk fun e T' H' hq=>?_
  cases e<;>first | exact ⟨k,Nat.lt_succ_self k,hq⟩ | exact hq
theorem AWu.next {n:Nat} (h:AW P L x (thenQ (AWu P L x Q n) Q) T H):AWu P L x Q (n+1) T H:=h
end
theorem EqnD.sub {P:Program} {f:FuncId} {args args':List V} {Hs Hs':List Ob} {X:V} {dead:List Nat} (E:EqnD P f args' Hs X Hs' dead) (h:Subs args args'):EqnD P f args Hs X Hs' dead :=
 ⟨E.len,E.old,E.lowx,E.lowo,fun m vs hb hv=>E.run m vs hb (h m vs hv)⟩
end
section
open Go.RowKit
attribute [simp] o_fh o_6x o_6y
@[simp] theorem o_fi (θ:Nat→Nat):∀l k:List V,V.rens θ (l++k)=V.rens θ l++V.rens θ k
 | [],k=>by simp [V.rens]
 | x::l,k=>by simp [V.rens,o_fi θ l k]
@[simp] theorem o_fj (n:Nat):∀l k:List V,V.lowl n (l++k)=(V.lowl n l&&V.lowl n k)
 | [],k=>by simp [V.lowl]
 | x::l,k=>by simp [V.lowl,o_fj n l k,Bool.and_assoc]
end
section
open Go.RowKit
def dsD (l:List Nat):List D:=l.map fun x:Nat=>D.int .i64 x
def nD (n:Nat):D:=.sl (sizeD n) (dsD (decs n))
theorem o_fk (l:List Nat):(dsD l).length=l.length:=by simp [dsD]
theorem o_fl (l:List Nat) (i:Nat) (h:i<l.length):(dsD l)[i]?=some (.int .i64 (l.getD i 0:Nat)):=by simp [dsD,h]
theorem o_fm:decs 0=[]:=rfl
theorem o_fn:nD 0 = .sl 0 []:=rfl

theorem o_fo (l:List Nat) (hs:dsmall l) (hn:l.length≤1000000):Eqn Tryz.prog o_c6 [.d (.sl l.length (dsD l))] [] (.d (nD (dval l))) []:=by
 refine Eqn.pure o_c8 Plain.ok ?_
 have hlen:=o_fk l
 have hget:=o_fl l
 have htk:∀i,i≤l.length→trimN l i=trimN l l.length→trimN l i=i→D.sl i ((dsD l).take i)=nD (dval l):=by
  intro i hi h1 h2
  have h3:=o_ev l l.length (Nat.le_refl _)
  have h4:=o_cq l l.length (Nat.le_refl _)
  rw [←h1,h2,List.take_length] at h3
  rw [←h1,h2] at h4
  have h5:=o_ff (hs.take i) h4
  rw [h3] at h5
  unfold nD sizeD dsD
  rw [h5,List.length_take,Nat.min_eq_left hi,List.map_take]
 have htk':∀i,i≤l.length→trimN l i=trimN l l.length→trimN l i=i→D.sl i ((l.map fun x:Nat=>D.int .i64 x).take i)=nD (dval l):=htk
 refine cc (c':=?z212) ?_ ?_
 case refine_1=>cbv<;>exact rfl
 try simp only [dsD]
 clear hlen hget htk
 generalize nD (dval l)=N at *
 refine A00 ?_;try with_reducible exact tt
 refine AW.loopT (α:=Nat) 0 (fun i=>[(3,.d (.int .i64 (i:Nat)))]) (fun i=>[]) (fun i=>i≤l.length∧trimN l i=trimN l l.length) (fun i=>i) l.length ?_ ?_ ⟨Nat.le_refl _,rfl⟩ ?_ ?_ ?_
 ·simp
 ·simp
 ·simp
 ·simp
 rintro i ⟨hi,ht⟩
 simp
 rcases i with _ | m
 ·have hf:=htk' 0 hi ht rfl
  refine A00 ?_;try with_reducible exact tt
  exact Sub1.of (by rw [←hf];simp)
 ·have hm:m<l.length:=by omega
  have hm2:¬l.length≤m:=by omega
  have hge:l.getD m 0=l[m]:=by simp [List.getD,hm]
  have ew:IntKind.i64.wrap (m:Int)=(m:Int):=w64 (by omega) (by omega)
  by_cases h0:l[m]=0
  ·have ht2:trimN l m=trimN l l.length:=by rw [←ht,trimN,if_pos (by rw [hge];exact h0)]
   refine A10 (fs hm (fs hm2 (fs hi (fs h0 ew)))) ?_;try with_reducible exact tt
   exact ⟨m,⟨by omega,ht2⟩,by omega,Sub1.refl _⟩
  ·have hf:=htk' (m+1) hi ht (by rw [trimN,if_neg (by rw [hge];exact h0)])
   have h0':¬((l[m]:Nat):Int)=0:=by omega
   refine A10 (fs hm (fs hm2 (fs hi (fs h0 (fs h0' ew))))) ?_;try with_reducible exact tt
   exact Sub1.of (by rw [hf])
theorem o_fp {m:Nat} (h:m≠0):decs m=(m%10000)::decs (m/10000):=by
 obtain ⟨k,rfl⟩:∃k,m=k+1:=⟨m-1,by omega⟩
 conv=>lhs;unfold decs
 rw [decsF,if_neg h]
 obtain ⟨h1,h2,h3⟩:=o_fb k ((k+1)/10000) (by omega)
 rw [o_ex h2 (o_fd _) h3 (o_fe _) (by rw [h1,o_fc])]
theorem o_fq (l:List Nat) (x:Nat):(dsD (l++[x])).map V.d=(dsD l).map V.d++[.d (.int .i64 x)]:=by simp [dsD]

theorem o_fr (n:Nat) (hn:n<9223372036854775808):Eqn Tryz.prog o_bx [.d (.int .i64 n)] [] (.d (nD n)) []:=by
 refine Eqn.pure o_bz Plain.ok ?_
 have hsz:(decs n).length≤5:=o_ey (o_fe n) (by rw [o_fc];omega)
 refine cc (c':=?z213) ?_ ?_
 case refine_1=>cbv<;>exact rfl
 refine A00 ?_;try with_reducible exact tt
 refine AW.loopG (α:=List Nat×Nat) (fun s=>setS (List.replicate 14 .junk) [(0,.d (.int .i64 (s.2:Nat))),(3,if s.1=[] then .d .nilsl else .own 0 1 s.1.length)]) (fun s=>if s.1=[] then [] else [some ⟨3,(dsD s.1).map .d⟩]) (fun s=>s.1++decs s.2=decs n∧s.2≤n) (fun s=>s.2) ([],n) ?_ ⟨rfl,Nat.le_refl _⟩ ?_ ?_ ?_
 ·intro i hi;split<;>simp
 ·simp
 ·simp
 rintro ⟨pre,m⟩ ⟨hp,hm⟩
 simp only at hp hm
 have hpl:pre.length≤5:=by rw [←hp,List.length_append] at hsz;omega
 by_cases h0:m=0
 ·subst h0
  rw [o_fm,List.append_nil] at hp
  subst hp
  by_cases hpe:decs n=[]
  ·have hn0:=o_fg.1 hpe
   subst hn0
   rw [if_pos hpe,if_pos hpe]
   simp
   refine A00 ?_;try with_reducible exact tt
   exact Sub1.nil
  ·rw [if_neg hpe,if_neg hpe]
   have htk:(dsD (decs n)).take (decs n).length=dsD (decs n):=List.take_of_length_le (by rw [o_fk];omega)
   simp
   refine AW.freeze 0 1 ⟨3,(dsD (decs n)).map .d⟩ (dsD (decs n)) (by simp) rfl ?_
   simp [frzH,htk]
   refine A00 ?_;try with_reducible exact tt
   exact Sub1.refl _
 ·have hst:=o_fp h0
  rw [hst,List.append_cons] at hp
  have hmp:0<m:=by omega
  have hmp':(0:Int)<m:=by omega
  have e1:(m:Int).tmod 10000=((m%10000:Nat):Int):=by rw [Int.tmod_eq_emod_of_nonneg (by omega)];omega
  have e2:(m:Int).tdiv 10000=((m/10000:Nat):Int):=by rw [Int.tdiv_eq_ediv_of_nonneg (by omega)];omega
  have hlt:m/10000<m:=by omega
  have hle:m/10000≤n:=by omega
  have hsn:=o_fq pre (m%10000)
  clear hst
  generalize m%10000=x at *
  generalize m/10000=y at *
  by_cases hpe:pre=[]
  ·subst hpe
   simp
   refine A10 (fs hmp (fs hmp' (fs e1 e2))) ?_;try with_reducible exact tt
   refine ⟨[x],y,0,1,by simp,⟨hp,hle⟩,hlt,?_,?_⟩
   ·simp [swT,swH,sw,Ob.sw,V.ren,V.rens]
   ·simp [swT,swH,sw,Ob.sw,V.ren,V.rens,dsD]
  ·rw [if_neg hpe,if_neg hpe]
   simp
   have hlen:=o_fk pre
   refine A10 (fs hmp (fs hmp' (fs e1 (fs e2 (fs hlen hpl))))) ?_;try with_reducible exact tt
   refine ⟨pre++[x],y,0,2,by simp,⟨hp,hle⟩,hlt,?_,?_⟩
   ·simp [swT,swH,sw,Ob.sw,V.ren,V.rens]
   ·simp [swT,swH,sw,Ob.sw,V.ren,V.rens,hsn]
end
section
open Go.RowKit
theorem o_fs (f:Nat→Nat) (i:Nat):dsD ((List.range (i+1)).map f)=dsD ((List.range i).map f)++[.int .i64 (f i)]:=by
 rw [List.range_succ,List.map_append];simp [dsD]
set_option maxHeartbeats 1000000 in
theorem o_ft (a b:List Nat) (ha:dsmall a) (hb:dsmall b) (hla:a.length≤100000) (hlb:b.length≤100000):Eqn Tryz.prog o_bl [.d (.sl a.length (dsD a)),.d (.sl b.length (dsD b))] [] (.d (nD (dval a+dval b))) []:=by
 refine Eqn.pure o_bn Plain.ok ?_
 obtain ⟨F,hF⟩:∃F:Nat→List D,F=fun i=>dsD ((List.range i).map (addD a b)):=⟨_,rfl⟩
 have hFl:∀i,(F i).length=i:=by intro i;rw [hF];simp [dsD]
 have hFs:∀i,F (i+1)=F i++[.int .i64 (addD a b i)]:=by intro i;rw [hF];exact o_fs _ i
 have hF0:F 0=[]:=by rw [hF];rfl
 have htr:∀i,i≤200001→Eqn Tryz.prog o_c6 [.d (.sl i (F i))] [] (.d (nD (dval ((List.range i).map (addD a b))))) []:=by
  intro i hi
  have:=o_fo ((List.range i).map (addD a b)) (o_f5 (o_f6 a b) i) (by simp;omega)
  rw [hF]
  simpa using this
 have hcl:=o_f1 ha hb
 have hval:=o_f2 a b
 clear hF
 refine cc (c':=?z214) ?_ ?_
 case refine_1=>cbv<;>exact rfl
 try simp only [dsD]
 refine A00 ?_;try with_reducible exact tt
 refine AW.loopG (α:=Nat) (fun i=>setS (List.replicate 53 .junk) [(0,.d (.sl a.length (a.map fun x:Nat=>D.int .i64 x))),(1,.d (.sl b.length (b.map fun x:Nat=>D.int .i64 x))),(5,if i=0 then .d .nilsl else .own 0 1 i),(6,.d (.int .i64 (carryD a b i:Nat))),(7,.d (.int .i64 (i:Nat)))]) (fun i=>if i=0 then [] else [some ⟨3,(F i).map .d⟩]) (fun i=>i≤max a.length b.length+1) (fun i=>max a.length b.length+1-i) 0 ?_ (Nat.zero_le _) ?_ ?_ ?_
 ·intro i hi;split<;>simp
 ·simp [carryD]
 ·simp
 rintro i hi
 have hc1:=hcl i
 have hqb:=hcl (i+1)
 have hsn:=hFs i
 have hqd:carryD a b (i+1)=(a.getD i 0+b.getD i 0+carryD a b i)/10000:=rfl
 have hrd:addD a b i=(a.getD i 0+b.getD i 0+carryD a b i)%10000:=rfl
 have g1:=ha.getD i
 have g2:=hb.getD i
 have ew:IntKind.i64.wrap ((i:Int)+1)=(i:Int)+1:=w64 (by omega) (by omega)
 have e3:((a.getD i 0+b.getD i 0+carryD a b i:Nat):Int).tmod 10000=(addD a b i:Int):=by rw [Int.tmod_eq_emod_of_nonneg (by omega),hrd];omega
 have e4:((a.getD i 0+b.getD i 0+carryD a b i:Nat):Int).tdiv 10000=(carryD a b (i+1):Int):=by rw [Int.tdiv_eq_ediv_of_nonneg (by omega),hqd];omega
 by_cases pa:i<a.length
 ·have ga:a[i]=a.getD i 0:=by simp [List.getD,pa]
  by_cases pb:i<b.length
  ·have gb:b[i]=b.getD i 0:=by simp [List.getD,pb]
   have e1:IntKind.i64.wrap ((carryD a b i:Int)+(a.getD i 0:Nat))=(carryD a b i:Int)+(a.getD i 0:Nat):=w64 (by omega) (by omega)
   have e2:IntKind.i64.wrap ((carryD a b i:Int)+(a.getD i 0:Nat)+(b.getD i 0:Nat))=((a.getD i 0+b.getD i 0+carryD a b i:Nat):Int):=by rw [w64 (by omega) (by omega)];omega
   clear hqd hrd
   generalize a.getD i 0+b.getD i 0+carryD a b i=s at *
   generalize a.getD i 0=ai at *
   generalize b.getD i 0=bi at *
   have hii:(i:Int)<a.length:=by omega
   have hij:(i:Int)<b.length:=by omega
   have hl:=hFl i
   clear hval htr
   generalize carryD a b i=c at *
   generalize hq:carryD a b (i+1)=q at *
   have e5:IntKind.i64.wrap (q:Int)=(q:Int):=w64 (by omega) (by omega)
   generalize addD a b i=r at *
   by_cases hi0:i=0
   ·rw [if_pos hi0,if_pos hi0]
    rw [hi0] at hsn
    rw [hF0] at hsn
    have hq1:carryD a b 1=q:=by rw [←hq,hi0]
    simp
    refine A10 (fs pa (fs pb (fs hii (fs hij (fs ga (fs gb (fs e1 (fs e2 (fs e3 (fs e4 (fs e5 (fs ew hl)))))))))))) ?_;try with_reducible exact tt
    refine ⟨i+1,0,1,by simp,by omega,by omega,?_,?_⟩
    ·simp [swT,swH,sw,Ob.sw,V.ren,V.rens,hi0,hq1]
    ·simp [swT,swH,sw,Ob.sw,V.ren,V.rens,hi0,hsn]
   ·rw [if_neg hi0,if_neg hi0]
    simp
    refine A10 (fs pa (fs pb (fs hii (fs hij (fs ga (fs gb (fs e1 (fs e2 (fs e3 (fs e4 (fs e5 (fs ew hl)))))))))))) ?_;try with_reducible exact tt
    refine ⟨i+1,0,2,by simp,by omega,by omega,?_,?_⟩
    ·simp [swT,swH,sw,Ob.sw,V.ren,V.rens,hq]
    ·simp [swT,swH,sw,Ob.sw,V.ren,V.rens,hsn]
  ·have gb:b.getD i 0=0:=by simp [List.getD,List.getElem?_eq_none (show b.length≤i by omega)]
   have e1:IntKind.i64.wrap ((carryD a b i:Int)+(a.getD i 0:Nat))=((a.getD i 0+b.getD i 0+carryD a b i:Nat):Int):=by rw [w64 (by omega) (by omega)];omega
   clear hqd hrd
   generalize a.getD i 0+b.getD i 0+carryD a b i=s at *
   generalize a.getD i 0=ai at *
   generalize b.getD i 0=bi at *
   have hii:(i:Int)<a.length:=by omega
   have hij:¬(i:Int)<b.length:=by omega
   have hl:=hFl i
   clear hval htr
   generalize carryD a b i=c at *
   generalize hq:carryD a b (i+1)=q at *
   have e5:IntKind.i64.wrap (q:Int)=(q:Int):=w64 (by omega) (by omega)
   generalize addD a b i=r at *
   by_cases hi0:i=0
   ·rw [if_pos hi0,if_pos hi0]
    rw [hi0] at hsn
    rw [hF0] at hsn
    have hq1:carryD a b 1=q:=by rw [←hq,hi0]
    simp
    refine A10 (fs pa (fs pb (fs hii (fs hij (fs ga (fs e1 (fs e3 (fs e4 (fs e5 (fs ew hl)))))))))) ?_;try with_reducible exact tt
    refine ⟨i+1,0,1,by simp,by omega,by omega,?_,?_⟩
    ·simp [swT,swH,sw,Ob.sw,V.ren,V.rens,hi0,hq1]
    ·simp [swT,swH,sw,Ob.sw,V.ren,V.rens,hi0,hsn]
   ·rw [if_neg hi0,if_neg hi0]
    simp
    refine A10 (fs pa (fs pb (fs hii (fs hij (fs ga (fs e1 (fs e3 (fs e4 (fs e5 (fs ew hl)))))))))) ?_;try with_reducible exact tt
    refine ⟨i+1,0,2,by simp,by omega,by omega,?_,?_⟩
    ·simp [swT,swH,sw,Ob.sw,V.ren,V.rens,hq]
    ·simp [swT,swH,sw,Ob.sw,V.ren,V.rens,hsn]
 ·have ga:a.getD i 0=0:=by simp [List.getD,List.getElem?_eq_none (show a.length≤i by omega)]
  have hii:¬(i:Int)<a.length:=by omega
  by_cases pb:i<b.length
  ·have gb:b[i]=b.getD i 0:=by simp [List.getD,pb]
   have e1:IntKind.i64.wrap ((carryD a b i:Int)+(b.getD i 0:Nat))=((a.getD i 0+b.getD i 0+carryD a b i:Nat):Int):=by rw [w64 (by omega) (by omega)];omega
   clear hqd hrd
   generalize a.getD i 0+b.getD i 0+carryD a b i=s at *
   generalize a.getD i 0=ai at *
   generalize b.getD i 0=bi at *
   have hij:(i:Int)<b.length:=by omega
   have hl:=hFl i
   clear hval htr
   generalize carryD a b i=c at *
   generalize hq:carryD a b (i+1)=q at *
   have e5:IntKind.i64.wrap (q:Int)=(q:Int):=w64 (by omega) (by omega)
   generalize addD a b i=r at *
   by_cases hi0:i=0
   ·rw [if_pos hi0,if_pos hi0]
    rw [hi0] at hsn
    rw [hF0] at hsn
    have hq1:carryD a b 1=q:=by rw [←hq,hi0]
    simp
    refine A10 (fs pa (fs pb (fs hii (fs hij (fs gb (fs e1 (fs e3 (fs e4 (fs e5 (fs ew hl)))))))))) ?_;try with_reducible exact tt
    refine ⟨i+1,0,1,by simp,by omega,by omega,?_,?_⟩
    ·simp [swT,swH,sw,Ob.sw,V.ren,V.rens,hi0,hq1]
    ·simp [swT,swH,sw,Ob.sw,V.ren,V.rens,hi0,hsn]
   ·rw [if_neg hi0,if_neg hi0]
    simp
    refine A10 (fs pa (fs pb (fs hii (fs hij (fs gb (fs e1 (fs e3 (fs e4 (fs e5 (fs ew hl)))))))))) ?_;try with_reducible exact tt
    refine ⟨i+1,0,2,by simp,by omega,by omega,?_,?_⟩
    ·simp [swT,swH,sw,Ob.sw,V.ren,V.rens,hq]
    ·simp [swT,swH,sw,Ob.sw,V.ren,V.rens,hsn]
  ·have gb:b.getD i 0=0:=by simp [List.getD,List.getElem?_eq_none (show b.length≤i by omega)]
   have hij:¬(i:Int)<b.length:=by omega
   simp only [ga,gb,Nat.zero_add] at e3 e4 hqd
   by_cases hc0:0<carryD a b i
   ·have hc0':(0:Int)<carryD a b i:=by omega
    have hlt:i<max a.length b.length+1:=by
     rcases Nat.lt_or_ge i (max a.length b.length+1) with h | h
     ·exact h
     ·exfalso
      obtain ⟨j,rfl⟩:∃j,i=j+1:=⟨i-1,by omega⟩
      have h1:=hcl j
      have h2:carryD a b (j+1)=(a.getD j 0+b.getD j 0+carryD a b j)/10000:=rfl
      have h3:a.getD j 0=0:=by simp [List.getD,List.getElem?_eq_none (show a.length≤j by omega)]
      have h4:b.getD j 0=0:=by simp [List.getD,List.getElem?_eq_none (show b.length≤j by omega)]
      omega
    clear hqd hrd
    have hl:=hFl i
    clear hval htr
    generalize carryD a b i=c at *
    generalize hq:carryD a b (i+1)=q at *
    have e5:IntKind.i64.wrap (q:Int)=(q:Int):=w64 (by omega) (by omega)
    generalize addD a b i=r at *
    by_cases hi0:i=0
    ·rw [if_pos hi0,if_pos hi0]
     rw [hi0] at hsn
     rw [hF0] at hsn
     have hq1:carryD a b 1=q:=by rw [←hq,hi0]
     simp
     refine A10 (fs pa (fs pb (fs hii (fs hij (fs hc0 (fs hc0' (fs e3 (fs e4 (fs e5 (fs ew hl)))))))))) ?_;try with_reducible exact tt
     refine ⟨i+1,0,1,by simp,by omega,by omega,?_,?_⟩
     ·simp [swT,swH,sw,Ob.sw,V.ren,V.rens,hi0,hq1]
     ·simp [swT,swH,sw,Ob.sw,V.ren,V.rens,hi0,hsn]
    ·rw [if_neg hi0,if_neg hi0]
     simp
     refine A10 (fs pa (fs pb (fs hii (fs hij (fs hc0 (fs hc0' (fs e3 (fs e4 (fs e5 (fs ew hl)))))))))) ?_;try with_reducible exact tt
     refine ⟨i+1,0,2,by simp,by omega,by omega,?_,?_⟩
     ·simp [swT,swH,sw,Ob.sw,V.ren,V.rens,hq]
     ·simp [swT,swH,sw,Ob.sw,V.ren,V.rens,hsn]
   ·have hc0':¬(0:Int)<carryD a b i:=by omega
    have hcz:carryD a b i=0:=by omega
    have hv:=hval i
    rw [hcz,Nat.mul_zero,Nat.add_zero,List.take_of_length_le (by omega),List.take_of_length_le (by omega)] at hv
    have ht:=htr i (by omega)
    rw [hv] at ht
    clear e3 e4 hqd hrd hval htr
    generalize carryD a b i=c at *
    by_cases hi0:i=0
    ·rw [if_pos hi0,if_pos hi0]
     subst hi0
     rw [hF0] at ht
     replace ht:Eqn Tryz.prog o_c6 [.d .nilsl] [] (.d (nD (dval a+dval b))) []:=ht.sub (Subs.cons Sub1.nil (Subs.refl _))
     simp
     refine A11 (fs pa (fs pb (fs hii (fs hij (fs hc0 hc0'))))) ht ?_;try with_reducible exact tt
    ·rw [if_neg hi0,if_neg hi0]
     have htk:(F i).take i=F i:=List.take_of_length_le (by rw [hFl];exact Nat.le_refl _)
     simp
     refine AW.freeze 0 1 ⟨3,(F i).map .d⟩ (F i) (by simp) rfl ?_
     simp [frzH,htk]
     refine A11 (fs pa (fs pb (fs hii (fs hij (fs hc0 hc0'))))) ht ?_;try with_reducible exact tt
theorem o_fu (x y:Nat) (hx:sizeD x≤100000) (hy:sizeD y≤100000):Eqn Tryz.prog o_bl [.d (nD x),.d (nD y)] [] (.d (nD (x+y))) []:=by
 have:=o_ft (decs x) (decs y) (o_fd x) (o_fd y) hx hy
 rwa [o_fc,o_fc] at this
end
section
open Go.RowKit
theorem o_fv (x y:Nat) (hx:sizeD x≤1000000) (hy:sizeD y≤1000000):Eqn Tryz.prog o_bo [.d (nD x),.d (nD y)] [] (.d (.int .i64 (cmpZ x y))) []:=by
 refine Eqn.pure o_bq Plain.ok ?_
 unfold sizeD at hx hy
 have ha:=o_fd x
 have hb:=o_fd y
 have ta:=o_fe x
 have tb:=o_fe y
 have va:=o_fc x
 have vb:=o_fc y
 refine cc (c':=?z215) ?_ ?_
 case refine_1=>cbv<;>exact rfl
 try simp only [nD,sizeD,dsD]
 generalize decs x=a at *
 generalize decs y=b at *
 by_cases hl:a.length=b.length
 ·have hlp:(a.length:Int)=b.length:=by omega
  have hc:=o_fa ha hb a.length
  rw [List.take_length,hl,List.take_length,va,vb] at hc
  replace hc:cmpN a b b.length=cmpZ x y:=hc
  rw [←hc]
  have ew0:IntKind.i64.wrap ((b.length:Int)-1)=(b.length:Int)-1:=w64 (by omega) (by omega)
  refine A10 (fs hl (fs hlp ew0)) ?_;try with_reducible exact tt
  refine AW.loopT (α:=Nat) 0 (fun j=>[(5,.d (.int .i64 ((j:Int)-1)))]) (fun j=>[]) (fun j=>j≤b.length∧cmpN a b j=cmpN a b b.length) (fun j=>j) b.length ?_ ?_ ⟨Nat.le_refl _,rfl⟩ ?_ ?_ ?_
  ·simp
  ·simp
  ·simp
  ·simp
  rintro j ⟨hj,hje⟩
  rcases j with _ | m
  ·simp
   have h0:cmpN a b b.length=0:=by rw [←hje];rfl
   rw [h0]
   refine A00 ?_;try with_reducible exact tt
  ·rw [cmpN] at hje
   have hm:m<a.length:=by omega
   have hm2:m<b.length:=by omega
   have g1:a.getD m 0=a[m]:=by simp [List.getD,hm]
   have g2:b.getD m 0=b[m]:=by simp [List.getD,hm2]
   have ew:IntKind.i64.wrap ((m:Int)-1)=(m:Int)-1:=w64 (by omega) (by omega)
   have hmi:(m:Int)<b.length:=by omega
   rw [g1,g2] at hje
   by_cases h1:a[m]<b[m]
   ·rw [if_pos h1] at hje
    rw [←hje]
    have h1':((a[m]:Nat):Int)<(b[m]:Nat):=by omega
    simp
    refine A10 (fs hm (fs hm2 (fs hmi (fs hl (fs hlp (fs h1 h1')))))) ?_;try with_reducible exact tt
   ·rw [if_neg h1] at hje
    have h1':¬((a[m]:Nat):Int)<(b[m]:Nat):=by omega
    by_cases h2:b[m]<a[m]
    ·rw [if_pos h2] at hje
     rw [←hje]
     have h2':((b[m]:Nat):Int)<(a[m]:Nat):=by omega
     simp
     refine A10 (fs hm (fs hm2 (fs hmi (fs hl (fs hlp (fs h1 (fs h1' (fs h2 h2')))))))) ?_;try with_reducible exact tt
    ·rw [if_neg h2] at hje
     have h2':¬((b[m]:Nat):Int)<(a[m]:Nat):=by omega
     simp
     refine A10 (fs hm (fs hm2 (fs hmi (fs hl (fs hlp (fs h1 (fs h1' (fs h2 (fs h2' ew))))))))) ?_;try with_reducible exact tt
     exact ⟨m,⟨by omega,hje⟩,by omega,Sub1.refl _⟩
 ·have hlp:¬(a.length:Int)=b.length:=by omega
  by_cases h1:a.length<b.length
  ·have h1':(a.length:Int)<b.length:=by omega
   have h3:=o_f8 ha tb h1
   rw [va,vb] at h3
   rw [show cmpZ x y = -1 by unfold cmpZ;rw [if_pos h3]]
   refine A10 (fs hl (fs hlp (fs h1 h1'))) ?_;try with_reducible exact tt
  ·have h1':¬(a.length:Int)<b.length:=by omega
   have h3:=o_f8 hb ta (show b.length<a.length by omega)
   rw [va,vb] at h3
   rw [show cmpZ x y=1 by unfold cmpZ;rw [if_neg (by omega),if_pos h3]]
   refine A10 (fs hl (fs hlp (fs h1 h1'))) ?_;try with_reducible exact tt

set_option maxHeartbeats 1000000 in
theorem o_fw (x y:Nat) (hxy:y≤x) (hx:sizeD x≤100000) (hy:sizeD y≤100000):Eqn Tryz.prog o_c0 [.d (nD x),.d (nD y)] [] (.d (nD (x-y))) []:=by
 refine Eqn.pure o_c2 Plain.ok ?_
 unfold sizeD at hx hy
 have ha:=o_fd x
 have hb:=o_fd y
 have tb:=o_fe y
 have ta:=o_fe x
 have va:=o_fc x
 have vb:=o_fc y
 have hll:(decs y).length≤(decs x).length:=by
  rcases Nat.lt_or_ge (decs x).length (decs y).length with h | h
  ·have:=o_f8 ha tb h
   omega
  ·exact h
 refine cc (c':=?z216) ?_ ?_
 case refine_1=>cbv<;>exact rfl
 try simp only [nD,sizeD,dsD]
 generalize decs x=a at *
 generalize decs y=b at *
 have hval:=o_f4 ha hb a.length
 have hbl:=o_f3 a b
 rw [List.take_length,List.take_of_length_le hll,va,vb] at hval
 have hsz:=o_f9 (l:=(List.range a.length).map (subD a b)) (o_f5 (o_f7 a b) a.length) a.length
 rw [List.take_of_length_le (by simp)] at hsz
 have hxa:dval a<10000^a.length:=by have:=o_f9 ha a.length;rwa [List.take_length] at this
 have hfin:dval ((List.range a.length).map (subD a b))=x-y:=by
  have h1:=hbl a.length
  rcases Nat.lt_or_ge (borrowD a b a.length) 1 with h | h
  ·have:borrowD a b a.length=0:=by omega
   rw [this] at hval
   omega
  ·have:borrowD a b a.length=1:=by omega
   rw [this] at hval
   omega
 obtain ⟨F,hF⟩:∃F:Nat→List D,F=fun i=>dsD ((List.range i).map (subD a b)):=⟨_,rfl⟩
 have hFl:∀i,(F i).length=i:=by intro i;rw [hF];simp [dsD]
 have hFs:∀i,F (i+1)=F i++[.int .i64 (subD a b i)]:=by intro i;rw [hF];exact o_fs _ i
 have hF0:F 0=[]:=by rw [hF];rfl
 have htr:Eqn Tryz.prog o_c6 [.d (.sl a.length (F a.length))] [] (.d (nD (x-y))) []:=by
  have:=o_fo ((List.range a.length).map (subD a b)) (o_f5 (o_f7 a b) _) (by simp;omega)
  rw [hF,←hfin]
  simpa using this
 clear hF hfin hxa hsz
 simp only [nD,sizeD,dsD] at htr
 generalize D.sl (decs (x-y)).length (List.map (fun x:Nat=>D.int .i64 x) (decs (x-y)))=N at *
 refine A00 ?_;try with_reducible exact tt
 refine AW.loopG (α:=Nat) (fun i=>setS (List.replicate 41 .junk) [(0,.d (.sl a.length (a.map fun x:Nat=>D.int .i64 x))),(1,.d (.sl b.length (b.map fun x:Nat=>D.int .i64 x))),(5,if i=0 then .d .nilsl else .own 0 1 i),(6,.d (.int .i64 (borrowD a b i:Nat))),(7,.d (.int .i64 (i:Nat)))]) (fun i=>if i=0 then [] else [some ⟨3,(F i).map .d⟩]) (fun i=>i≤a.length) (fun i=>a.length-i) 0 ?_ (Nat.zero_le _) ?_ ?_ ?_
 ·intro i hi;split<;>simp
 ·simp [borrowD]
 ·simp
 rintro i hi
 by_cases pa:i<a.length
 ·have hii:(i:Int)<a.length:=by omega
  have hc1:=hbl i
  have hqb:=hbl (i+1)
  have hsn:=hFs i
  have ga:a[i]=a.getD i 0:=by simp [List.getD,pa]
  have g1:=ha.getD i
  have g2:=hb.getD i
  have hqd:borrowD a b (i+1)=if a.getD i 0<b.getD i 0+borrowD a b i then 1 else 0:=rfl
  have hrd:subD a b i=(a.getD i 0+10000-b.getD i 0-borrowD a b i)%10000:=rfl
  have ew:IntKind.i64.wrap ((i:Int)+1)=(i:Int)+1:=w64 (by omega) (by omega)
  have e1:IntKind.i64.wrap ((a.getD i 0:Nat)-(borrowD a b i:Int))=(a.getD i 0:Nat)-(borrowD a b i:Int):=w64 (by omega) (by omega)
  by_cases pb:i<b.length
  ·have hij:(i:Int)<b.length:=by omega
   have gb:b[i]=b.getD i 0:=by simp [List.getD,pb]
   by_cases hz:a.getD i 0<b.getD i 0+borrowD a b i
   ·have q0:borrowD a b (i+1)=1:=by rw [hqd];rw [if_pos hz]
    have e2:IntKind.i64.wrap ((a.getD i 0:Nat)-(borrowD a b i:Int)-(b.getD i 0:Nat))=(subD a b i:Int)-10000:=by rw [w64 (by omega) (by omega),hrd];omega
    have e3:IntKind.i64.wrap ((subD a b i:Int)-10000+10000)=(subD a b i:Int):=by rw [w64 (by omega) (by omega)];omega
    have e3':IntKind.i64.wrap (subD a b i:Int)=(subD a b i:Int):=w64 (by omega) (by omega)
    have e4:(subD a b i:Int)-10000<0:=by omega
    have e5:(subD a b i:Int)<10000:=by omega
    clear hqd hrd
    generalize a.getD i 0=ai at *
    generalize b.getD i 0=bi at *
    have hl:=hFl i
    clear hval htr
    generalize hq:borrowD a b (i+1)=q at *
    generalize borrowD a b i=c at *
    generalize subD a b i=r at *
    by_cases hi0:i=0
    ·rw [if_pos hi0,if_pos hi0]
     rw [hi0] at hsn
     rw [hF0] at hsn
     have hq1:borrowD a b 1=q:=by rw [←hq,hi0]
     simp
     refine A10 (fs pa (fs pb (fs hii (fs hij (fs ga (fs gb (fs e1 (fs e2 (fs e3 (fs e3' (fs e4 (fs e5 (fs ew hl))))))))))))) ?_;try with_reducible exact tt
     refine ⟨i+1,0,1,by simp,by omega,by omega,?_,?_⟩
     ·simp [swT,swH,sw,Ob.sw,V.ren,V.rens,hi0,hq1,q0]
     ·simp [swT,swH,sw,Ob.sw,V.ren,V.rens,hi0,hsn]
    ·rw [if_neg hi0,if_neg hi0]
     simp
     refine A10 (fs pa (fs pb (fs hii (fs hij (fs ga (fs gb (fs e1 (fs e2 (fs e3 (fs e3' (fs e4 (fs e5 (fs ew hl))))))))))))) ?_;try with_reducible exact tt
     refine ⟨i+1,0,2,by simp,by omega,by omega,?_,?_⟩
     ·simp [swT,swH,sw,Ob.sw,V.ren,V.rens,hq,q0]
     ·simp [swT,swH,sw,Ob.sw,V.ren,V.rens,hsn]
   ·have q0:borrowD a b (i+1)=0:=by rw [hqd];rw [if_neg hz]
    have e2:IntKind.i64.wrap ((a.getD i 0:Nat)-(borrowD a b i:Int)-(b.getD i 0:Nat))=(subD a b i:Int):=by rw [w64 (by omega) (by omega),hrd];omega
    have e4:¬(subD a b i:Int)<0:=by omega
    clear hqd hrd
    generalize a.getD i 0=ai at *
    generalize b.getD i 0=bi at *
    have hl:=hFl i
    clear hval htr
    generalize hq:borrowD a b (i+1)=q at *
    generalize borrowD a b i=c at *
    generalize subD a b i=r at *
    by_cases hi0:i=0
    ·rw [if_pos hi0,if_pos hi0]
     rw [hi0] at hsn
     rw [hF0] at hsn
     have hq1:borrowD a b 1=q:=by rw [←hq,hi0]
     simp
     refine A10 (fs pa (fs pb (fs hii (fs hij (fs ga (fs gb (fs e1 (fs e2 (fs e4 (fs ew hl)))))))))) ?_;try with_reducible exact tt
     refine ⟨i+1,0,1,by simp,by omega,by omega,?_,?_⟩
     ·simp [swT,swH,sw,Ob.sw,V.ren,V.rens,hi0,hq1,q0]
     ·simp [swT,swH,sw,Ob.sw,V.ren,V.rens,hi0,hsn]
    ·rw [if_neg hi0,if_neg hi0]
     simp
     refine A10 (fs pa (fs pb (fs hii (fs hij (fs ga (fs gb (fs e1 (fs e2 (fs e4 (fs ew hl)))))))))) ?_;try with_reducible exact tt
     refine ⟨i+1,0,2,by simp,by omega,by omega,?_,?_⟩
     ·simp [swT,swH,sw,Ob.sw,V.ren,V.rens,hq,q0]
     ·simp [swT,swH,sw,Ob.sw,V.ren,V.rens,hsn]
  ·have hij:¬(i:Int)<b.length:=by omega
   have gb:b.getD i 0=0:=by simp [List.getD,List.getElem?_eq_none (show b.length≤i by omega)]
   by_cases hz:a.getD i 0<b.getD i 0+borrowD a b i
   ·have q0:borrowD a b (i+1)=1:=by rw [hqd];rw [if_pos hz]
    have e2:IntKind.i64.wrap ((a.getD i 0:Nat)-(borrowD a b i:Int))=(subD a b i:Int)-10000:=by rw [w64 (by omega) (by omega),hrd];omega
    have e3:IntKind.i64.wrap ((subD a b i:Int)-10000+10000)=(subD a b i:Int):=by rw [w64 (by omega) (by omega)];omega
    have e3':IntKind.i64.wrap (subD a b i:Int)=(subD a b i:Int):=w64 (by omega) (by omega)
    have e4:(subD a b i:Int)-10000<0:=by omega
    have e5:(subD a b i:Int)<10000:=by omega
    clear hqd hrd e1
    generalize a.getD i 0=ai at *
    generalize b.getD i 0=bi at *
    have hl:=hFl i
    clear hval htr
    generalize hq:borrowD a b (i+1)=q at *
    generalize borrowD a b i=c at *
    generalize subD a b i=r at *
    by_cases hi0:i=0
    ·rw [if_pos hi0,if_pos hi0]
     rw [hi0] at hsn
     rw [hF0] at hsn
     have hq1:borrowD a b 1=q:=by rw [←hq,hi0]
     simp
     refine A10 (fs pa (fs pb (fs hii (fs hij (fs ga (fs e2 (fs e3 (fs e3' (fs e4 (fs e5 (fs ew hl))))))))))) ?_;try with_reducible exact tt
     refine ⟨i+1,0,1,by simp,by omega,by omega,?_,?_⟩
     ·simp [swT,swH,sw,Ob.sw,V.ren,V.rens,hi0,hq1,q0]
     ·simp [swT,swH,sw,Ob.sw,V.ren,V.rens,hi0,hsn]
    ·rw [if_neg hi0,if_neg hi0]
     simp
     refine A10 (fs pa (fs pb (fs hii (fs hij (fs ga (fs e2 (fs e3 (fs e3' (fs e4 (fs e5 (fs ew hl))))))))))) ?_;try with_reducible exact tt
     refine ⟨i+1,0,2,by simp,by omega,by omega,?_,?_⟩
     ·simp [swT,swH,sw,Ob.sw,V.ren,V.rens,hq,q0]
     ·simp [swT,swH,sw,Ob.sw,V.ren,V.rens,hsn]
   ·have q0:borrowD a b (i+1)=0:=by rw [hqd];rw [if_neg hz]
    have e2:IntKind.i64.wrap ((a.getD i 0:Nat)-(borrowD a b i:Int))=(subD a b i:Int):=by rw [w64 (by omega) (by omega),hrd];omega
    have e4:¬(subD a b i:Int)<0:=by omega
    clear hqd hrd e1
    generalize a.getD i 0=ai at *
    generalize b.getD i 0=bi at *
    have hl:=hFl i
    clear hval htr
    generalize hq:borrowD a b (i+1)=q at *
    generalize borrowD a b i=c at *
    generalize subD a b i=r at *
    by_cases hi0:i=0
    ·rw [if_pos hi0,if_pos hi0]
     rw [hi0] at hsn
     rw [hF0] at hsn
     have hq1:borrowD a b 1=q:=by rw [←hq,hi0]
     simp
     refine A10 (fs pa (fs pb (fs hii (fs hij (fs ga (fs e2 (fs e4 (fs ew hl)))))))) ?_;try with_reducible exact tt
     refine ⟨i+1,0,1,by simp,by omega,by omega,?_,?_⟩
     ·simp [swT,swH,sw,Ob.sw,V.ren,V.rens,hi0,hq1,q0]
     ·simp [swT,swH,sw,Ob.sw,V.ren,V.rens,hi0,hsn]
    ·rw [if_neg hi0,if_neg hi0]
     simp
     refine A10 (fs pa (fs pb (fs hii (fs hij (fs ga (fs e2 (fs e4 (fs ew hl)))))))) ?_;try with_reducible exact tt
     refine ⟨i+1,0,2,by simp,by omega,by omega,?_,?_⟩
     ·simp [swT,swH,sw,Ob.sw,V.ren,V.rens,hq,q0]
     ·simp [swT,swH,sw,Ob.sw,V.ren,V.rens,hsn]
 ·have hi2:i=a.length:=by omega
  have hii:¬(i:Int)<a.length:=by omega
  rw [←hi2] at htr
  clear hval
  generalize borrowD a b i=c at *
  by_cases hi0:i=0
  ·rw [if_pos hi0,if_pos hi0]
   rw [hi0,hF0] at htr
   replace htr:Eqn Tryz.prog o_c6 [.d .nilsl] [] (.d N) []:=htr.sub (Subs.cons Sub1.nil (Subs.refl _))
   simp
   refine A11 (fs pa hii) htr ?_;try with_reducible exact tt
  ·rw [if_neg hi0,if_neg hi0]
   have htk:(F i).take i=F i:=List.take_of_length_le (by rw [hFl];exact Nat.le_refl _)
   simp
   refine AW.freeze 0 1 ⟨3,(F i).map .d⟩ (F i) (by simp) rfl ?_
   simp [frzH,htk]
   refine A11 (fs pa hii) htr ?_;try with_reducible exact tt
end
section
open Go.RowKit
theorem o_fx:∀(ws:List Nat) (j v:Nat),j<ws.length→dval (ws.set j v)+10000^j*ws.getD j 0=dval ws+10000^j*v
 | [],j,v,h=>by simp at h
 | x::ws,0,v,h=>by simp [dval];omega
 | x::ws,j+1,v,h=>by
  have ih:=o_fx ws j v (by simpa using h)
  simp only [List.set_cons_succ,dval,List.getD_cons_succ]
  rw [Nat.pow_succ]
  generalize 10000^j=P at *
  generalize ws.getD j 0=g at *
  have e1:P*10000*g=10000*(P*g):=by rw [Nat.mul_comm P,Nat.mul_assoc]
  have e2:P*10000*v=10000*(P*v):=by rw [Nat.mul_comm P,Nat.mul_assoc]
  rw [e1,e2]
  omega
theorem o_fy {l:List Nat} {i j v:Nat} (h:i≠j):(l.set i v).getD j 0=l.getD j 0:=by
 rw [List.getD_eq_getElem?_getD,List.getElem?_set_ne h,←List.getD_eq_getElem?_getD]
theorem dsmall.set {l:List Nat} (h:dsmall l) (j v:Nat) (hv:v<10000):dsmall (l.set j v):=fun x hx=>by
 rcases List.mem_or_eq_of_mem_set hx with h1 | h1
 ·exact h x h1
 ·rw [h1];exact hv
theorem o_fz {V A c o x D1 D2 Bk bk P K:Nat} (hv:D1+P*K*c=V+P*(A*Bk)) (hs:D2+P*K*o=D1+P*K*(x%10000)) (hx:x=o+c+A*bk):D2+P*(K*10000)*(x/10000)=V+P*(A*(Bk+K*bk)):=by
 have h1:10000*(x/10000)+x%10000=o+c+A*bk:=by rw [Nat.div_add_mod];exact hx
 have h2:P*K*(10000*(x/10000)+x%10000)=P*K*(o+c+A*bk):=by rw [h1]
 have h3:P*(K*10000)*(x/10000)=P*K*(10000*(x/10000)):=by
  rw [←Nat.mul_assoc P K 10000,Nat.mul_assoc (P*K)]
 have h4:P*(A*(Bk+K*bk))=P*(A*Bk)+P*K*(A*bk):=by
  rw [Nat.mul_add,Nat.mul_add,show A*(K*bk)=K*(A*bk) by rw [←Nat.mul_assoc,Nat.mul_comm A K,Nat.mul_assoc],←Nat.mul_assoc P K]
 rw [Nat.mul_add] at h2
 rw [Nat.mul_add,Nat.mul_add] at h2
 rw [h3,h4]
 generalize P*K*(10000*(x/10000))=t1 at *
 generalize P*K*(x%10000)=t2 at *
 generalize P*K*o=t3 at *
 generalize P*K*c=t4 at *
 generalize P*K*(A*bk)=t5 at *
 generalize P*(A*Bk)=t6 at *
 omega

@[simp] theorem lowI (n:Nat):∀l:List Nat,V.lowl n (l.map fun x:Nat=>V.d (D.int .i64 x))=true
 | []=>rfl
 | x::l=>by
  have:=lowI n l
  simp only [List.map_cons,V.lowl,this];rfl
@[simp] theorem lowR (n m:Nat) (x:D):V.lowl n (List.replicate m (V.d x))=true:=by
 induction m with
 | zero=>rfl
 | succ m ih=>simp only [List.replicate_succ,V.lowl,ih];rfl
set_option maxHeartbeats 2000000 in
theorem o_g0 (a b:List Nat) (ha:dsmall a) (hb:dsmall b) (hla:a.length≤100000) (hlb:b.length≤100000):Eqn Tryz.prog o_br [.d (.sl a.length (dsD a)),.d (.sl b.length (dsD b))] [] (.d (nD (dval a*dval b))) []:=by
 refine Eqn.pure o_bt Plain.ok ?_
 obtain ⟨n,hn⟩:∃n,n=a.length+b.length+1:=⟨_,rfl⟩
 have ew1:IntKind.i64.wrap ((a.length:Int)+b.length)=(a.length:Int)+b.length:=w64 (by omega) (by omega)
 have ew2:IntKind.i64.wrap ((a.length:Int)+b.length+1)=(n:Int):=by rw [w64 (by omega) (by omega)];omega
 have hnb:(n:Int)*8≤140737488355328:=by omega
 have hnb2:n≤17592186044416:=by omega
 refine cc (c':=?z217) ?_ ?_
 case refine_1=>cbv<;>exact rfl
 try simp only [dsD]
 refine A10 (fs ew1 (fs ew2 (fs hnb hnb2))) ?_;try with_reducible exact tt
 have hrep:List.replicate n (V.d (D.int .i64 0))=(List.replicate n 0).map fun x:Nat=>V.d (D.int .i64 x):=by simp
 rw [hrep]
 refine AW.loopT (α:=Nat×List Nat) 1 (fun s=>[(6,.d (.int .i64 (s.1:Nat)))]) (fun s=>[(0,⟨3,s.2.map fun x:Nat=>V.d (D.int .i64 x)⟩)]) (fun s=>s.1≤a.length∧s.2.length=n∧dsmall s.2∧dval s.2=dval (a.take s.1)*dval b∧∀j,s.1+b.length≤j→s.2.getD j 0=0) (fun s=>a.length-s.1) (0,List.replicate n 0) ?_ ?_ ⟨Nat.zero_le _,by simp,by intro x hx;simp [List.mem_replicate] at hx;omega,by rw [o_et];simp [dval],by intro j _;simp only [List.getD,List.getElem?_replicate];split<;>rfl⟩ ?_ ?_ ?_
 ·simp
 ·simp
 ·simp
 ·simp
 rintro ⟨i,out⟩ ⟨hi,hol,hos,hov,hoz⟩
 simp only at hi hol hos hov hoz
 simp
 by_cases pa:i<a.length
 ·have hii:(i:Int)<a.length:=by omega
  have ewi:IntKind.i64.wrap ((i:Int)+1)=((i+1:Nat):Int):=by rw [w64 (by omega) (by omega)];omega
  have g1:=ha.getD i
  have ga:a[i]=a.getD i 0:=by simp [List.getD,pa]
  have hta:=o_f0 a i
  have hal:∀j,i+max 0 b.length≤j→out.getD j 0=0:=fun j hj=>hoz j (by omega)
  refine A10 (fs pa hii) ?_;try with_reducible exact tt
  refine AW.loopT (α:=Nat×Nat×List Nat) 1 (fun s=>[(8,.d (.int .i64 (s.1:Nat))),(7,.d (.int .i64 (s.2.1:Nat)))]) (fun s=>[(0,⟨3,s.2.2.map fun x:Nat=>V.d (D.int .i64 x)⟩)]) (fun s=>s.1≤b.length+1∧s.2.1≤9999∧(s.1=b.length+1→s.2.1=0)∧s.2.2.length=n∧dsmall s.2.2∧dval s.2.2+10000^i*10000^s.1*s.2.1=dval out+10000^i*(a.getD i 0*dval (b.take s.1))∧∀j,i+max s.1 b.length≤j→s.2.2.getD j 0=0) (fun s=>b.length+1-s.1) (0,0,out) ?_ ?_ ⟨Nat.zero_le _,by simp,by simp,hol,hos,by simp [dval],hal⟩ ?_ ?_ ?_
  ·simp
  ·simp
  ·simp
  ·simp
  rintro ⟨k,c,o⟩ ⟨hk,hc,hck,hl,hs,hv,hz⟩
  simp only at hk hc hck hl hs hv hz
  simp
  have ewk:IntKind.i64.wrap ((k:Int)+1)=((k+1:Nat):Int):=by rw [w64 (by omega) (by omega)];omega
  have e99:∀x:Nat,((x:Int).tmod 10000=((x%10000:Nat):Int))∧((x:Int).tdiv 10000=((x/10000:Nat):Int)):=fun x=>⟨by rw [Int.tmod_eq_emod_of_nonneg (by omega)];omega,by rw [Int.tdiv_eq_ediv_of_nonneg (by omega)];omega⟩
  by_cases pb:k<b.length
  ·have hij:(k:Int)<b.length:=by omega
   have g2:=hb.getD k
   have gb:b[k]=b.getD k 0:=by simp [List.getD,pb]
   have htb:=o_f0 b k
   obtain ⟨m,hm⟩:∃m,m=i+k:=⟨_,rfl⟩
   have hmo:m<o.length:=by omega
   have hmn:m<n:=by omega
   have go:=hs.getD m
   have gm:o[m]=o.getD m 0:=by simp [List.getD,hmo]
   have em:IntKind.i64.wrap ((i:Int)+k)=(m:Int):=by rw [w64 (by omega) (by omega)];omega
   have hpm:=Nat.mul_le_mul (show a.getD i 0≤9999 by omega) (show b.getD k 0≤9999 by omega)
   obtain ⟨p,hp⟩:∃p,p=a.getD i 0*b.getD k 0:=⟨_,rfl⟩
   rw [←hp] at hpm
   have ep:IntKind.i64.wrap (((a.getD i 0:Nat):Int)*(b.getD k 0:Nat))=(p:Int):=by rw [hp,←Int.natCast_mul];exact w64 (by omega) (by rw [←hp];omega)
   obtain ⟨x,hx⟩:∃x,x=o.getD m 0+c+p:=⟨_,rfl⟩
   have e1:IntKind.i64.wrap ((o.getD m 0:Nat)+(c:Int))=(o.getD m 0:Nat)+(c:Int):=w64 (by omega) (by omega)
   have e2:IntKind.i64.wrap ((o.getD m 0:Nat)+(c:Int)+p)=(x:Int):=by rw [w64 (by omega) (by omega)];omega
   obtain ⟨e3,e4⟩:=e99 x
   have hds:=o_fx o m (x%10000) hmo
   rw [show 10000^m=10000^i*10000^k by rw [hm,Nat.pow_add]] at hds
   have hst:=o_fz (A:=a.getD i 0) (bk:=b.getD k 0) hv hds (by rw [hx,hp])
   have hset:(o.map fun x:Nat=>V.d (D.int .i64 x)).set m (.d (.int .i64 (x%10000:Nat)))=(o.set m (x%10000)).map fun x:Nat=>V.d (D.int .i64 x):=by rw [List.map_set]
   have hs2:=hs.set m (x%10000) (Nat.mod_lt _ (by decide))
   have hl2:(o.set m (x%10000)).length=n:=by simpa using hl
   have hz2:∀j,i+max (k+1) b.length≤j→(o.set m (x%10000)).getD j 0=0:=fun j hj=>by rw [o_fy (by omega)];exact hz j (by omega)
   have hxq:x/10000≤9999:=by omega
   have e5:IntKind.i64.wrap ((x/10000:Nat):Int)=((x/10000:Nat):Int):=w64 (by omega) (by omega)
   rw [←htb] at hst
   clear hv hz hs hal hov hoz hta e99
   generalize o.set m (x%10000)=o2 at *
   generalize x%10000=r at *
   generalize x/10000=q at *
   generalize a.getD i 0=ai at *
   generalize b.getD k 0=bk at *
   generalize o.getD m 0=om at *
   refine A10 (fs pa (fs hii (fs pb (fs hij (fs ga (fs gb (fs hmo (fs hmn (fs hl (fs gm (fs em (fs ep (fs e1 (fs e2 (fs e3 (fs e4 (fs e5 (fs ewk hset)))))))))))))))))) ?_;try with_reducible exact tt
   exact ⟨k+1,q,o2,⟨by omega,hxq,by omega,hl2,hs2,hst,hz2⟩,by omega,⟨Sub1.refl _,Sub1.int (by omega)⟩,Subs.refl _⟩
  ·have hij:¬(k:Int)<b.length:=by omega
   by_cases hc0:0<c
   ·have hc0':(0:Int)<c:=by omega
    have hkb:k=b.length:=by
     rcases Nat.lt_or_ge b.length k with h | h
     ·have:=hck (by omega);omega
     ·omega
    obtain ⟨m,hm⟩:∃m,m=i+k:=⟨_,rfl⟩
    have hmo:m<o.length:=by omega
    have hmn:m<n:=by omega
    have gz:o.getD m 0=0:=hz m (by omega)
    have gm:o[m]=0:=by rw [←gz];simp [List.getD,hmo]
    have em:IntKind.i64.wrap ((i:Int)+k)=(m:Int):=by rw [w64 (by omega) (by omega)];omega
    have e2:IntKind.i64.wrap (c:Int)=(c:Int):=w64 (by omega) (by omega)
    have e3:(c:Int).tmod 10000=(c:Int):=by rw [Int.tmod_eq_emod_of_nonneg (by omega)];omega
    have e4:(c:Int).tdiv 10000=0:=by rw [Int.tdiv_eq_ediv_of_nonneg (by omega)];omega
    have hds:=o_fx o m c hmo
    rw [gz,Nat.mul_zero,Nat.add_zero,show 10000^m=10000^i*10000^k by rw [hm,Nat.pow_add]] at hds
    have hst:dval (o.set m c)+10000^i*10000^(k+1)*0=dval out+10000^i*(a.getD i 0*dval (b.take (k+1))):=by
     rw [Nat.mul_zero,Nat.add_zero,hds,hv,List.take_of_length_le (by omega),List.take_of_length_le (by omega)]
    have hset:(o.map fun x:Nat=>V.d (D.int .i64 x)).set m (.d (.int .i64 (c:Nat)))=(o.set m c).map fun x:Nat=>V.d (D.int .i64 x):=by rw [List.map_set]
    have hs2:=hs.set m c (by omega)
    have hl2:(o.set m c).length=n:=by simpa using hl
    have hz2:∀j,i+max (k+1) b.length≤j→(o.set m c).getD j 0=0:=fun j hj=>by rw [o_fy (by omega)];exact hz j (by omega)
    clear hv hz hs hal hov hoz hta e99 hds
    generalize o.set m c=o2 at *
    generalize a.getD i 0=ai at *
    refine A10 (fs pa (fs hii (fs pb (fs hij (fs hc0 (fs hc0' (fs hmo (fs hmn (fs hl (fs gm (fs em (fs e2 (fs e3 (fs e4 (fs ewk hset))))))))))))))) ?_;try with_reducible exact tt
    exact ⟨k+1,0,o2,⟨by omega,by omega,fun _=>rfl,hl2,hs2,by rw [ga];exact hst,hz2⟩,by omega,⟨Sub1.int (by omega),Sub1.int (by omega)⟩,Subs.refl _⟩
   ·have hc0':¬(0:Int)<c:=by omega
    have hcz:c=0:=by omega
    rw [hcz,Nat.mul_zero,Nat.add_zero,List.take_of_length_le (by omega)] at hv
    have hnv:dval o=dval (a.take (i+1))*dval b:=by
     rw [hv,hta,hov,Nat.add_mul,Nat.mul_assoc]
    have hnz:∀j,i+1+b.length≤j→o.getD j 0=0:=fun j hj=>hz j (by omega)
    clear hv hz hal hov hoz hta e99
    refine A10 (fs pa (fs hii (fs pb (fs hij (fs hc0 (fs hc0' ewi)))))) ?_;try with_reducible exact tt
    exact ⟨i+1,o,⟨by omega,hl,hs,hnv,hnz⟩,by omega,Sub1.int (by omega),Subs.refl _⟩
 ·have hii:¬(i:Int)<a.length:=by omega
  have hi2:i=a.length:=by omega
  rw [hi2,List.take_length] at hov
  have ht:=o_fo out hos (by omega)
  rw [hov,hol] at ht
  have htk:(dsD out).take n=dsD out:=List.take_of_length_le (by rw [o_fk];omega)
  have hob:(out.map fun x:Nat=>V.d (D.int .i64 x))=(dsD out).map V.d:=by simp [dsD]
  rw [hob]
  refine AW.freeze 0 1 ⟨3,(dsD out).map .d⟩ (dsD out) (by simp) rfl ?_
  simp [frzH,htk]
  refine A11 (fs pa hii) ht ?_;try with_reducible exact tt
theorem o_g1 (x y:Nat) (hx:sizeD x≤100000) (hy:sizeD y≤100000):Eqn Tryz.prog o_br [.d (nD x),.d (nD y)] [] (.d (nD (x*y))) []:=by
 have:=o_g0 (decs x) (decs y) (o_fd x) (o_fd y) hx hy
 rwa [o_fc,o_fc] at this
end
section
open Go.RowKit
theorem o_g2 {n m:Nat} (h:n<10000^m):sizeD n≤m:=o_ey (o_fe n) (by rw [o_fc];exact h)
end
section
open Go.RowKit
end
section
open Go.RowKit
theorem o_g3 (B hi lo w:Nat) (hB:B≤4294967296) (h1:hi≤4294967296) (h2:lo≤4294967296) (hw:hi*B+lo=w):∃N0 N1 N2 N3 N4 N5:D,Eqn Tryz.prog o_bx [.d (.int .i64 B)] [] (.d N3) []∧Eqn Tryz.prog o_br [.d N3,.d N3] [] (.d N1) []∧Eqn Tryz.prog o_br [.d .nilsl,.d N1] [] (.d N0) []∧Eqn Tryz.prog o_bx [.d (.int .i64 hi)] [] (.d N4) []∧Eqn Tryz.prog o_bx [.d (.int .i64 lo)] [] (.d N5) []∧Eqn Tryz.prog o_br [.d N4,.d N3] [] (.d N2) []∧Eqn Tryz.prog o_bl [.d N2,.d N5] [] (.d (nD w)) []∧Eqn Tryz.prog o_bl [.d N0,.d (nD w)] [] (.d (nD w)) []:=by
 have sz:∀x,x≤4294967296→sizeD x≤100000:=fun x hx=>Nat.le_trans (o_g2 (show x<10000^3 by omega)) (by omega)
 have bb:∀x y,x≤4294967296→y≤4294967296→x*y<10000^6:=fun x y hx hy=>Nat.lt_of_le_of_lt (Nat.mul_le_mul hx hy) (by decide)
 have szm:∀x y,x≤4294967296→y≤4294967296→sizeD (x*y)≤100000:=fun x y hx hy=>Nat.le_trans (o_g2 (bb x y hx hy)) (by omega)
 have sw:sizeD w≤100000:=Nat.le_trans (o_g2 (m:=7) (by have:=bb hi B h1 hB;omega)) (by omega)
 refine ⟨nD (0*(B*B)),nD (B*B),nD (hi*B),nD B,nD hi,nD lo,o_fr B (by omega),o_g1 B B (sz B hB) (sz B hB),(o_g1 0 (B*B) (sz 0 (by omega)) (szm B B hB hB)).sub (Subs.cons Sub1.nil (Subs.refl _)),o_fr hi (by omega),o_fr lo (by omega),o_g1 hi B (sz hi h1) (sz B hB),?_,?_⟩
 ·have:=o_fu (hi*B) lo (szm hi B h1 hB) (sz lo h2)
  rwa [hw] at this
 ·have:=o_fu (0*(B*B)) w (by rw [Nat.zero_mul];exact sz 0 (by omega)) sw
  rwa [show 0*(B*B)+w=w by rw [Nat.zero_mul,Nat.zero_add]] at this
theorem o_g4 (w:Nat) (h:w<18446744073709551616):Eqn Tryz.prog o_bu [.d (.sl 1 [.int .u64 w])] [] (.d (nD w)) []:=by
 refine Eqn.pure o_bw Plain.ok ?_
 obtain ⟨hi,hhi⟩:∃x,x=w/4294967296:=⟨_,rfl⟩
 obtain ⟨lo,hlo⟩:∃x,x=w%4294967296:=⟨_,rfl⟩
 have hw:hi*4294967296+lo=w:=by omega
 have e1:(w:Int).tdiv 4294967296=(hi:Int):=by rw [Int.tdiv_eq_ediv_of_nonneg (by omega)];omega
 have e2:(w:Int).tmod 4294967296=(lo:Int):=by rw [Int.tmod_eq_emod_of_nonneg (by omega)];omega
 have e3:IntKind.i64.wrap (hi:Int)=(hi:Int):=w64 (by omega) (by omega)
 have e4:IntKind.i64.wrap (lo:Int)=(lo:Int):=w64 (by omega) (by omega)
 have e5:IntKind.u64.wrap (hi:Int)=(hi:Int):=by rw [IntKind.wrap_u64];omega
 obtain ⟨N0,N1,N2,N3,N4,N5,s0,m0,m1,s1,s2,m2,a1,a2⟩:=o_g3 4294967296 hi lo w (by omega) (by omega) (by omega) hw
 have m9:IntKind.i64.wrap (-1) = -1:=by decide
 have m8:IntKind.i64.wrap (0-1) = -1:=by decide
 clear hhi hlo hw
 generalize nD w=N6 at *
 refine cc (c':=?z218) ?_ ?_
 case refine_1=>cbv<;>exact rfl
 refine A02 s0 m0 ?_;try with_reducible exact tt
 refine AW.rounds 2 ?_
 refine A18 (fs e1 (fs e2 (fs e3 (fs e4 (fs e5 (fs m8 m9)))))) s1 s2 s0 m1 m2 a1 a2 a2 ?_;try with_reducible exact tt
end
section
open Go.RowKit
theorem o_g5 (n:Nat):(txt n).size=ndig n:=by
 unfold txt bst
 show ((decN n).map UInt8.ofNat).toArray.size=ndig n
 simp [o_dq]
theorem o_g6 {n E:Nat} (h:n<2^E) (h0:0<E):(txt n).size≤E:=by
 rw [o_g5]
 exact o_dk n E (Nat.lt_of_lt_of_le h (Nat.pow_le_pow_left (by decide) E)) h0
end
section
open Go.RowKit
theorem sizeB {x E m:Nat} (h:x<2^E) (hm:E≤13*m):sizeD x≤m:=by
 refine o_g2 (Nat.lt_of_lt_of_le h (Nat.le_trans (Nat.pow_le_pow_right (by decide) hm) ?_))
 rw [Nat.pow_mul]
 exact Nat.pow_le_pow_left (by decide) m
def zW (p m:Nat):D:=.agg [nD p,nD m]
theorem o_g7 (p m E:Nat) (hE:E≤200000) (h1:p<2^E) (h2:m<2^E):Eqn Tryz.prog o_cf [.d (zW p m)] [] (.d (.bool (decide (p<m)))) []:=by
 refine Eqn.pure o_ch Plain.ok ?_
 have a1:=o_fv p m (sizeB h1 (by omega)) (sizeB h2 (by omega))
 refine cc (c':=?z222) ?_ ?_
 case refine_1=>cbv<;>exact rfl
 try simp only [zW]
 have hz:decide (cmpZ p m<0)=decide (p<m):=by unfold cmpZ;split<;>(try split)<;>simp<;>omega
 rw [←hz]
 generalize cmpZ p m=z at *
 generalize qD3:nD p=D3 at *
 obtain ⟨nD3,lD3,rfl⟩:∃n l,D3=D.sl n l:=⟨_,_,qD3.symm⟩
 clear qD3
 generalize qD4:nD m=D4 at *
 obtain ⟨nD4,lD4,rfl⟩:∃n l,D4=D.sl n l:=⟨_,_,qD4.symm⟩
 clear qD4
 refine A01 a1 ?_;try with_reducible exact tt
theorem o_g8 (p m E:Nat) (hE:E≤200000) (h1:p<2^E) (h2:m<2^E):Eqn Tryz.prog o_c9 [.d (zW p m)] [] (.d (nD ((p:Int)-m).natAbs)) []:=by
 refine Eqn.pure o_cb Plain.ok ?_
 have a1:=o_fv p m (sizeB h1 (by omega)) (sizeB h2 (by omega))
 refine cc (c':=?z223) ?_ ?_
 case refine_1=>cbv<;>exact rfl
 try simp only [zW]
 rcases Nat.lt_or_ge p m with h | h
 ·have a2:=o_fw m p (by omega) (sizeB h2 (by omega)) (sizeB h1 (by omega))
  rw [show ((p:Int)-m).natAbs=m-p by omega]
  have hz:¬0≤cmpZ p m:=by unfold cmpZ;rw [if_pos h];decide
  have hz':cmpZ p m<0:=by omega
  generalize cmpZ p m=z at *
  generalize qD1:nD (m-p)=D1 at *
  obtain ⟨nD1,lD1,rfl⟩:∃n l,D1=D.sl n l:=⟨_,_,qD1.symm⟩
  clear qD1
  generalize qD3:nD p=D3 at *
  obtain ⟨nD3,lD3,rfl⟩:∃n l,D3=D.sl n l:=⟨_,_,qD3.symm⟩
  clear qD3
  generalize qD4:nD m=D4 at *
  obtain ⟨nD4,lD4,rfl⟩:∃n l,D4=D.sl n l:=⟨_,_,qD4.symm⟩
  clear qD4
  refine A12 (fs hz hz') a1 a2 ?_;try with_reducible exact tt
 ·have a2:=o_fw p m h (sizeB h1 (by omega)) (sizeB h2 (by omega))
  rw [show ((p:Int)-m).natAbs=p-m by omega]
  have hz:0≤cmpZ p m:=by unfold cmpZ;rw [if_neg (by omega)];split<;>decide
  have hz':¬cmpZ p m<0:=by omega
  generalize cmpZ p m=z at *
  generalize qD1:nD (p-m)=D1 at *
  obtain ⟨nD1,lD1,rfl⟩:∃n l,D1=D.sl n l:=⟨_,_,qD1.symm⟩
  clear qD1
  generalize qD3:nD p=D3 at *
  obtain ⟨nD3,lD3,rfl⟩:∃n l,D3=D.sl n l:=⟨_,_,qD3.symm⟩
  clear qD3
  generalize qD4:nD m=D4 at *
  obtain ⟨nD4,lD4,rfl⟩:∃n l,D4=D.sl n l:=⟨_,_,qD4.symm⟩
  clear qD4
  refine A12 (fs hz hz') a1 a2 ?_;try with_reducible exact tt
theorem o_g9 (n:Nat) (h:n<9223372036854775808):Eqn Tryz.prog o_ci [.d (.int .i64 n)] [] (.d (zW n 0)) []:=by
 refine Eqn.pure o_ck Plain.ok ?_
 have h1:=o_g4 n (by omega)
 have e1:IntKind.u64.wrap (n:Int)=n:=by rw [IntKind.wrap_u64];omega
 have e2:(0:Int)≤n:=by omega
 have e3:¬(n:Int)<0:=by omega
 refine cc (c':=?z224) ?_ ?_
 case refine_1=>cbv<;>exact rfl
 try simp only [zW]
 rw [o_fn]
 generalize qN:nD n=N at *
 obtain ⟨nN,lN,rfl⟩:∃n l,N=D.sl n l:=⟨_,_,qN.symm⟩
 clear qN
 refine A10 (fs e1 (fs e2 e3)) ?_;try with_reducible exact tt
 refine CallS.pf 1 1 ⟨24,[.d (.int .u64 n)]⟩ [.int .u64 n] (h1) (by first | rfl | (simp [e1,e2,e3];done)) (R1 (fs e1 (fs e2 e3)) ?_);try with_reducible exact tt
 exact Sub1.aggd (Subs.cons (Sub1.refl _) (Subs.cons Sub1.nil (Subs.refl _)))
end
section
open Go.RowKit
@[simp] theorem o_ga:intsV []=some []:=rfl
@[simp] theorem o_gb (n:Int):intsV [.d (.int .u8 n)]=some [n]:=rfl
theorem o_gc (n:Nat):∀i,i≤sizeD n→dval ((decs n).take i)=n%10000^i:=by
 intro i hi
 have h1:=o_es ((decs n).take i) ((decs n).drop i)
 rw [List.take_append_drop,o_fc,List.length_take,Nat.min_eq_left (show i≤(decs n).length from hi)] at h1
 have h2:=o_f9 (o_fd n) i
 generalize dval ((decs n).take i)=T at *
 generalize dval ((decs n).drop i)=R at *
 rw [h1,Nat.add_mul_mod_self_left,Nat.mod_eq_of_lt h2]
theorem o_gd (n i:Nat) (hi:i<sizeD n):(decs n).getD i 0=n/10000^i%10000:=by
 have h1:=o_f0 (decs n) i
 rw [o_gc n (i+1) hi,o_gc n i (by omega),Nat.pow_succ,Nat.mod_mul] at h1
 have hp:0<10000^i:=Nat.pow_pos (by decide)
 have h2:10000^i*(n/10000^i%10000)=10000^i*(decs n).getD i 0:=by omega
 exact (Nat.eq_of_mul_eq_mul_left hp h2).symm
theorem o_ge (n:Nat):n<10000^sizeD n:=by
 have:=o_eu (o_fd n)
 rwa [o_fc] at this
theorem o_gf (n i:Nat) (hi:i<sizeD n):0<n/10000^i:=by
 rcases Nat.eq_zero_or_pos (n/10000^i) with h | h
 ·have hp:0<10000^i:=Nat.pow_pos (by decide)
  have h1:n<10000^i:=(Nat.div_eq_zero_iff_lt hp).1 h
  have h2:=o_ey (ws:=decs n) (m:=i) (o_fe n) (by rw [o_fc];exact h1)
  unfold sizeD at hi
  omega
 ·exact h
theorem pow4 (i:Nat):10000^i=10^(4*i):=by rw [Nat.pow_mul]
def dN (n i:Nat):List Nat:=if i<sizeD n then padN (4*i) n else decN n
def qD (w k:Nat):Nat:=w/10^k
theorem o_gg (w k:Nat):qD w (k+1)=qD w k/10:=by rw [qD,qD,Nat.div_div_eq_div_mul,Nat.pow_succ]
theorem o_gh (w k:Nat):padN (k+1) w=(48+qD w k%10)::padN k w:=by
 rw [Nat.add_comm,o_dd];rfl
theorem o_gi (c:Nat) (l:List Nat):bst [c]++bst l=bst (c::l):=o_dn [c] l
theorem o_gj (c:Nat):strOf [(c:Int)]=bst [c]:=rfl
set_option maxHeartbeats 2000000 in
theorem o_gk (n:Nat) (hn:sizeD n≤10000):Eqn Tryz.prog o_c3 [.d (nD n)] [] (.d (.str (txt n))) []:=by
 refine Eqn.pure o_c5 Plain.ok ?_
 refine cc (c':=?z225) ?_ ?_
 case refine_1=>cbv<;>exact rfl
 try simp only [nD]
 by_cases h0:n=0
 ·subst h0
  have e:sizeD 0=0:=rfl
  rw [e,o_el]
  refine A00 ?_;try with_reducible exact tt
 have hL:0<sizeD n:=by
  rcases Nat.eq_zero_or_pos (sizeD n) with h | h
  ·exact absurd (o_fg.1 (List.eq_nil_of_length_eq_zero h)) h0
  ·exact h
 have hL':¬(sizeD n:Int)=0:=by omega
 have hL2:¬sizeD n=0:=by omega
 have hdl:(dsD (decs n)).length=sizeD n:=o_fk _
 have hget:=fun i h=>o_gd n i h
 have hgd:=fun i=>o_fl (decs n) i
 obtain ⟨DS,hDS⟩:∃DS,DS=dsD (decs n):=⟨_,rfl⟩
 rw [←hDS] at hdl hgd ⊢
 refine A10 (fs hL' hL2) ?_;try with_reducible exact tt
 refine AW.loopT (α:=Nat) 0 (fun i=>[(3,.d (.str (bst (dN n i)))),(4,.d (.int .i64 (i:Nat)))]) (fun i=>[]) (fun i=>i≤sizeD n) (fun i=>sizeD n-i) 0 ?_ ?_ (Nat.zero_le _) ?_ ?_ ?_
 ·simp
 ·simp
 ·simp [dN,hL,padN,o_dp]
 ·simp
 intro i hi
 simp
 by_cases hin:i<sizeD n
 ·have hin':(i:Int)<sizeD n:=by omega
  have hge:=o_gf n i hin
  have hgi:=hget i hin
  have hgdi:=hgd i (by unfold sizeD at hin;exact hin)
  rw [hgi] at hgdi
  obtain ⟨w,hw⟩:∃w,w=n/10000^i%10000:=⟨_,rfl⟩
  rw [←hw] at hgdi
  have hw4:w<10000:=by rw [hw];exact Nat.mod_lt _ (by decide)
  have hd0:dN n i=padN (4*i) n:=if_pos hin
  have hlen:(padN (4*i) n).length=4*i:=o_dc _ _
  obtain ⟨K,hK4,hKc,hKe⟩:∃K,K≤4∧(∀k,k≤K→(k<K↔(k<4∧(i<sizeD n-1∨0<qD w k))))∧padN K w++padN (4*i) n=dN n (i+1):=by
   by_cases hlast:i<sizeD n-1
   ·refine ⟨4,Nat.le_refl _,fun k hk=>by simp [hlast],?_⟩
    rw [dN,if_pos (by omega),show 4*(i+1)=4+4*i by omega,o_dd,←pow4,hw,show (10000:Nat)=10^4 from rfl,o_dg]
   ·have hi1:i+1=sizeD n:=by omega
    have hwv:w=n/10000^i:=by
     rw [hw,Nat.mod_eq_of_lt]
     have:=o_ge n
     rw [←hi1,Nat.pow_succ] at this
     exact Nat.div_lt_of_lt_mul this
    refine ⟨ndig w,o_dk w 4 hw4 (by decide),fun k hk=>?_,?_⟩
    ·have h4:=o_dk w 4 hw4 (by decide)
     constructor
     ·intro hlt
      refine ⟨by omega,.inr ?_⟩
      rcases Nat.eq_zero_or_pos (qD w k) with h | h
      ·have h5:w<10^k:=(Nat.div_eq_zero_iff_lt (Nat.pow_pos (by decide))).1 h
       rcases Nat.eq_zero_or_pos k with rfl | hk0
       ·simp at h5;omega
       ·have:=o_dk w k h5 hk0;omega
      ·exact h
     ·rintro ⟨-,h | h⟩
      ·exact absurd h hlast
      ·have:=o_dl k w h
       have:=o_di (w/10^k)
       omega
    ·rw [dN,if_neg (by omega),o_dm (4*i) n (by rw [←pow4];exact hge),hwv,←pow4]
     rfl
  rw [hd0]
  obtain ⟨P0,hP0⟩:∃P,P=padN (4*i) n:=⟨_,rfl⟩
  rw [←hP0] at hKe hlen ⊢
  have hgd2:∀h,DS[i]'h = .int .i64 (w:Nat):=fun h=>by
   rw [List.getElem?_eq_getElem h] at hgdi
   exact Option.some.inj hgdi
  have hi48:i<DS.length:=by omega
  clear hDS hgd hget hgi hgdi hge hd0
  refine A10 (fs hin (fs hin' (fs hgd2 hi48))) ?_;try with_reducible exact tt
  refine AW.loopT (α:=Nat) 0 (fun k=>[(3,.d (.str (bst (padN k w++P0)))),(5,.d (.int .i64 (qD w k:Nat))),(6,.d (.int .i64 (k:Nat)))]) (fun k=>[]) (fun k=>k≤K) (fun k=>K-k) 0 ?_ ?_ (Nat.zero_le _) ?_ ?_ ?_
  ·simp
  ·simp
  ·simp [padN,qD]
  ·simp
  intro k hk
  simp
  have xel:IntKind.i64.wrap ((sizeD n:Int)-1)=((sizeD n-1:Nat):Int):=by rw [w64 (by omega) (by omega)];omega
  have hkc:=hKc k hk
  have hqle:qD w k≤w:=Nat.div_le_self _ _
  obtain ⟨q,hq⟩:∃q,q=qD w k:=⟨_,rfl⟩
  rw [←hq] at hkc hqle ⊢
  generalize hL1:sizeD n-1=L1 at *
  by_cases hk4:k<4
  ·have hk4':(k:Int)<4:=by omega
   by_cases hla:i<L1
   ·have hla':(i:Int)<L1:=by omega
    have hkK:k<K:=hkc.2 ⟨hk4,.inl hla⟩
    have xek:IntKind.i64.wrap ((k:Int)+1)=((k+1:Nat):Int):=by rw [w64 (by omega) (by omega)];omega
    obtain ⟨r,hr⟩:∃r,r=q%10:=⟨_,rfl⟩
    have xm10:(q:Int).tmod 10=r:=by rw [hr];exact modN q 10
    have r10:r<10:=by rw [hr];exact Nat.mod_lt _ (by decide)
    obtain ⟨c,hc⟩:∃c,c=48+r:=⟨_,rfl⟩
    have xa48:IntKind.i64.wrap (48+(r:Int))=c:=by rw [w64 (by omega) (by omega)];omega
    have xu8c:IntKind.u8.wrap (c:Int)=c:=by rw [IntKind.wrap_u8];omega
    obtain ⟨q1,hq1⟩:∃q1,q1=q/10:=⟨_,rfl⟩
    have xdq:IntKind.i64.wrap ((q:Int)/10)=q1:=by rw [hq1,w64 (by omega) (by omega)];omega
    have xsO:=o_gj c
    obtain ⟨X,hX⟩:∃X,X=padN k w++P0:=⟨_,rfl⟩
    have hXl:X.length≤50000:=by rw [hX,List.length_append,o_dc,hlen];omega
    have xbc:=o_gi c X
    have hst:padN (k+1) w++P0=c::X:=by rw [o_gh,hX,hc,hr,hq];rfl
    have hq':qD w (k+1)=q1:=by rw [o_gg,←hq,hq1]
    rw [←hX]
    clear hr hc hq1 hX hKc hKe
    refine A10 (fs hk4 (fs hk4' (fs hla (fs hla' (fs xel (fs xek (fs xm10 (fs xa48 (fs xu8c (fs xdq (fs xsO xbc))))))))))) ?_;try with_reducible exact tt
    exact ⟨k+1,by omega,by omega,Sub1.of (by rw [hst]),Sub1.int (by rw [hq']),Sub1.int (by omega)⟩
   ·have hla':¬(i:Int)<L1:=by omega
    by_cases hq0:0<q
    ·have hq0':(0:Int)<q:=by omega
     have hkK:k<K:=hkc.2 ⟨hk4,.inr hq0⟩
     have xek:IntKind.i64.wrap ((k:Int)+1)=((k+1:Nat):Int):=by rw [w64 (by omega) (by omega)];omega
     obtain ⟨r,hr⟩:∃r,r=q%10:=⟨_,rfl⟩
     have xm10:(q:Int).tmod 10=r:=by rw [hr];exact modN q 10
     have r10:r<10:=by rw [hr];exact Nat.mod_lt _ (by decide)
     obtain ⟨c,hc⟩:∃c,c=48+r:=⟨_,rfl⟩
     have xa48:IntKind.i64.wrap (48+(r:Int))=c:=by rw [w64 (by omega) (by omega)];omega
     have xu8c:IntKind.u8.wrap (c:Int)=c:=by rw [IntKind.wrap_u8];omega
     obtain ⟨q1,hq1⟩:∃q1,q1=q/10:=⟨_,rfl⟩
     have xdq:IntKind.i64.wrap ((q:Int)/10)=q1:=by rw [hq1,w64 (by omega) (by omega)];omega
     have xsO:=o_gj c
     obtain ⟨X,hX⟩:∃X,X=padN k w++P0:=⟨_,rfl⟩
     have hXl:X.length≤50000:=by rw [hX,List.length_append,o_dc,hlen];omega
     have xbc:=o_gi c X
     have hst:padN (k+1) w++P0=c::X:=by rw [o_gh,hX,hc,hr,hq];rfl
     have hq':qD w (k+1)=q1:=by rw [o_gg,←hq,hq1]
     rw [←hX]
     clear hr hc hq1 hX hKc hKe
     refine A10 (fs hk4 (fs hk4' (fs hla (fs hla' (fs hq0 (fs hq0' (fs xel (fs xek (fs xm10 (fs xa48 (fs xu8c (fs xdq (fs xsO xbc))))))))))))) ?_;try with_reducible exact tt
     exact ⟨k+1,by omega,by omega,Sub1.of (by rw [hst]),Sub1.int (by rw [hq']),Sub1.int (by omega)⟩
    ·have hq0':¬(0:Int)<q:=by omega
     have hkK:k=K:=by
      rcases Nat.lt_or_ge k K with h | h
      ·have:=(hKc k hk).1 h;omega
      ·omega
     subst hkK
     rw [hKe]
     have xei:IntKind.i64.wrap ((i:Int)+1)=((i+1:Nat):Int):=by rw [w64 (by omega) (by omega)];omega
     refine A10 (fs hk4 (fs hk4' (fs hla (fs hla' (fs hq0 (fs hq0' (fs xel xei))))))) ?_;try with_reducible exact tt
     exact ⟨i+1,by omega,by omega,Sub1.refl _,Sub1.int (by omega)⟩
  ·have hk4':¬(k:Int)<4:=by omega
   have hkK:k=K:=by
    rcases Nat.lt_or_ge k K with h | h
    ·have:=(hKc k hk).1 h;omega
    ·omega
   subst hkK
   rw [hKe]
   have xei:IntKind.i64.wrap ((i:Int)+1)=((i+1:Nat):Int):=by rw [w64 (by omega) (by omega)];omega
   refine A10 (fs hk4 (fs hk4' (fs xel xei))) ?_;try with_reducible exact tt
   exact ⟨i+1,by omega,by omega,Sub1.refl _,Sub1.int (by omega)⟩
 ·have h2:i=sizeD n:=by omega
  subst h2
  have hd:dN n (sizeD n)=decN n:=if_neg (by omega)
  rw [hd]
  refine A00 ?_;try with_reducible exact tt
  exact Sub1.of rfl
end
end Go.Proofs.YtdakiocgijlgiaaGreatDoor.Am
