/- Parts of the proof: AmEv, EvN, ShL, ScrM, ShM, AmLaw, AmLaw2, AmLaw3, ShC, ShB, ScrS, ShM2, AmLB, ShS, ScO, ScQ, ScR, ScT, ScU, AmCu, ScX, ScV, ShI, ScA, ScB, ScP, AmLE, ScC, ScD, ScE, ScF, ScG. -/
import Derived.Test.YtdakiocgijlgiaaGreatDoorPc
set_option linter.unusedVariables false
set_option linter.unusedSimpArgs false
set_option maxRecDepth 100000
namespace Go.Proofs.YtdakiocgijlgiaaGreatDoor.Am
section
open Go.RowKit
abbrev R4:=V×List (Option Ob)×List Nat×List Nat
def R4.then (r:R4) (K:V→List (Option Ob)→List Nat→List Nat→Prop):Prop:=K r.1 r.2.1 r.2.2.1 r.2.2.2

def o_gl (k:IntKind) (a:Int) (k':IntKind) (b:Int):Option D:=if 0≤b∧b≤k.bits then some (.int k (k.wrap (a*2^b.toNat))) else none
def o_gm (k:IntKind) (a:Int) (k':IntKind) (b:Int):Option D:=if 0≤b∧b≤k.bits then some (.int k (a/2^b.toNat)) else none
def o_gn (k:IntKind) (a:Int) (k':IntKind) (b:Int):Option D:=if k=k' then some (.int k (k.wrap (a+b))) else none
def o_go (k:IntKind) (a:Int) (k':IntKind) (b:Int):Option D:=if k=k' then some (.int k (k.wrap (a-b))) else none
def o_gp (k:IntKind) (a:Int) (k':IntKind) (b:Int):Option D:=if k=k' then some (.int k (k.wrap (a*b))) else none
def o_gq (k:IntKind) (a:Int) (k':IntKind) (b:Int):Option D:=if k=k'∧b≠0 then some (.int k (k.wrap (a.tdiv b))) else none
def o_gr (k:IntKind) (a:Int) (k':IntKind) (b:Int):Option D:=if k=k'∧b≠0 then some (.int k (a.tmod b)) else none
def o_gs (k:IntKind) (a:Int) (k':IntKind) (b:Int):Option D:=if k=k' then some (.int k (bits .and k a b)) else none
def o_gt (k:IntKind) (a:Int) (k':IntKind) (b:Int):Option D:=if k=k' then some (.int k (bits .or k a b)) else none
def o_gu (k:IntKind) (a:Int) (k':IntKind) (b:Int):Option D:=if k=k' then some (.int k (bits .xor k a b)) else none
def o_gv (k:IntKind) (a:Int) (k':IntKind) (b:Int):Option D:=if k=k' then some (.int k (bits .andNot k a b)) else none
def o_gw (k:IntKind) (a:Int) (k':IntKind) (b:Int):Option D:=if k=k' then some (.bool (a==b)) else none
def o_gx (k:IntKind) (a:Int) (k':IntKind) (b:Int):Option D:=if k=k' then some (.bool (a != b)) else none
def o_gy (k:IntKind) (a:Int) (k':IntKind) (b:Int):Option D:=if k=k' then some (.bool (decide (a<b))) else none
def o_gz (k:IntKind) (a:Int) (k':IntKind) (b:Int):Option D:=if k=k' then some (.bool (decide (a≤b))) else none
def o_h0 (k:IntKind) (a:Int) (k':IntKind) (b:Int):Option D:=if k=k' then some (.bool (decide (b<a))) else none
def o_h1 (k:IntKind) (a:Int) (k':IntKind) (b:Int):Option D:=if k=k' then some (.bool (decide (b≤a))) else none
def evInt (op:BinOp) (k:IntKind) (a:Int) (k':IntKind) (b:Int):Option D :=
 match op with
 | .shl=>o_gl k a k' b
 | .shr=>o_gm k a k' b
 | .add=>o_gn k a k' b
 | .sub=>o_go k a k' b
 | .mul=>o_gp k a k' b
 | .quo=>o_gq k a k' b
 | .rem=>o_gr k a k' b
 | .and=>o_gs k a k' b
 | .or=>o_gt k a k' b
 | .xor=>o_gu k a k' b
 | .andNot=>o_gv k a k' b
 | .eql=>o_gw k a k' b
 | .neq=>o_gx k a k' b
 | .lss=>o_gy k a k' b
 | .leq=>o_gz k a k' b
 | .gtr=>o_h0 k a k' b
 | .geq=>o_h1 k a k' b
theorem o_h2 {op:BinOp} {k k':IntKind} {a b:Int} {d:D} (h:evInt op k a k' b=some d) {K:D→Prop} (hK:K d):binInt op k a k' b K:=by
 unfold evInt at h
 unfold binInt
 cases op<;>simp only [o_gl,o_gm,o_gn,o_go,o_gp,o_gq,o_gr,o_gs,o_gt,o_gu,o_gv,o_gw,o_gx,o_gy,o_gz,o_h0,o_h1,Option.ite_none_right_eq_some,Option.some.injEq] at h ⊢<;>obtain ⟨h1,h2⟩:=h<;>subst h2<;>exact ⟨h1,hK⟩
def evStr (op:BinOp) (a b:ByteArray):Option D :=
 match op with
 | .add=>if a.size+b.size≤9223372036854775807 then some (.str (a++b)) else none
 | .eql=>some (.bool (decide (a.toList=b.toList)))
 | .neq=>some (.bool (!decide (a.toList=b.toList)))
 | _=>none
theorem o_h3 {op:BinOp} {a b:ByteArray} {d:D} (h:evStr op a b=some d) {K:D→Prop} (hK:K d):binStr op a b K:=by
 have e:(a.toList==b.toList)=decide (a.toList=b.toList):=by
  by_cases h:a.toList=b.toList<;>simp [h]
 unfold evStr at h
 unfold binStr
 cases op<;>simp only [Option.ite_none_right_eq_some,Option.some.injEq,reduceCtorEq] at h ⊢
 ·obtain ⟨h1,h2⟩:=h;subst h2;exact ⟨h1,hK⟩
 ·subst h;rw [e];exact hK
 ·subst h;rw [e];exact hK
def evSlice (s:Nat) (x:V) (a b:Option Int) (mx:Option (Option Int)):Option V :=
 match x,a,b,mx with
 | .d (.sl n l),some a,some b,none=>if 0≤a∧a≤b∧b≤n then some (.d (.sl (b-a).toNat ((l.drop (a.toNat*s)).take ((b-a).toNat*s)))) else none
 | .d (.sl n l),some a,some b,some (some c)=>if 0≤a∧a≤b∧b≤c∧c≤n then (if a=0∧c=0 then some (.d .sl0) else if a=0∧b=c then some (.d (.slf b.toNat (l.take (b.toNat*s)))) else some (.d (.sl (b-a).toNat ((l.drop (a.toNat*s)).take ((b-a).toNat*s))))) else none
 | .own m s' n,some a,some b,none=>if s'=s∧0≤a∧a≤b∧b≤n then some (.row m (a.toNat*s) (b-a).toNat) else none
 | .row m o n,some a,some b,none=>if 0≤a∧a≤b∧b≤n then some (.row m (o+a.toNat*s) (b-a).toNat) else none
 | .d .nilsl,some a,some b,none=>if a=0∧b=0 then some (.d .nilsl) else none
 | _,_,_,_=>none
theorem o_h4 {s:Nat} {x:V} {a b:Option Int} {mx:Option (Option Int)} {v:V} (h:evSlice s x a b mx=some v) {K:V→Prop} (hK:K v):sliceS s x a b mx K:=by
 unfold evSlice at h
 split at h<;>first
  | (cases h;done)
  | (simp only [Option.ite_none_right_eq_some,Option.some.injEq] at h;obtain ⟨h1,h2⟩:=h;subst h2;exact ⟨h1,hK⟩)
  | (split at h
     ·rename_i h1
      refine ⟨h1,?_⟩
      split at h
      ·rename_i h2;rw [if_pos h2];cases h;exact hK
      ·rename_i h2
       rw [if_neg h2]
       split at h
       ·rename_i h3;rw [if_pos h3];cases h;exact hK
       ·rename_i h3;rw [if_neg h3];cases h;exact hK
     ·cases h)

section
variable (T:List V) (H:List (Option Ob)) (cl:FuncId→List V→List (Option Ob)→Option R4) (mt:TypeId→String→Option FuncId)
def o_h5 (c:X) (a:X) (b:X):Option R4:=match c.ev T with
  | .d (.bool t)=>some (if t then a.ev T else b.ev T,H,[],[])
  | _=>none
def o_h6 (e:Nat) (z:List D):Option R4:=some (.p H.length 0,H++[some ⟨e,z.map .d⟩],[],[H.length])
def o_h7 (e:Nat) (x:X):Option R4:=match (x.ev T).cells? with
  | some c=>some (.p H.length 0,H++[some ⟨e,c⟩],[],[H.length])
  | none=>none
def o_h8 (z:List D) (ps:List (Nat×Nat×X)):Option R4:=match fillV (z.map .d) (ps.map fun p=>(p.1,p.2.1,p.2.2.ev T)) with
  | some c=>some (mkAgg c,H,[],[])
  | none=>none
def o_h9 (e:Nat) (s:Nat) (n:Nat) (z:List D) (ps:List (Nat×Nat×X)):Option R4:=match fillV (z.map .d) (ps.map fun p=>(p.1,p.2.1,p.2.2.ev T)) with
  | some c=>some (.own H.length s n,H++[some ⟨e,c⟩],[],[H.length])
  | none=>none
def o_ha (g:Bool) (s:Nat) (x:X):Option R4:=match x.ev T with
  | .p n off=>match H.getD n none with
   | some ob=>if ob.T<1000000 then (if g then (if off+s≤ob.c.length then some (mkAgg ((ob.c.drop off).take s),H,[n],[]) else none) else (if off<ob.c.length then some (ob.c.getD off .junk,H,[n],[]) else none)) else none
   | none=>none
  | .ia l off=>if g then (if off+s≤l.length then some (.d (.agg ((l.drop off).take s)),H,[],[]) else none) else (if off<l.length then some (.d (l.getD off default),H,[],[]) else none)
  | _=>none
def o_hb (s:Nat) (x:X) (y:X):Option R4:=match x.ev T,(y.ev T).cells? with
  | .p n off,some c=>match H.getD n none with
   | some ob=>if ob.T<1000000 then (if c.length=s∧off+s≤ob.c.length then some (.junk,H.set n (some ⟨ob.T,setMany ob.c off c⟩),[],[n]) else none) else none
   | none=>none
  | _,_=>none
def o_hc (x:X):Option R4:=match x.ev T with
  | .p n o=>some (.p n o,H,[],[])
  | .ia l o=>some (.ia l o,H,[],[])
  | .fn (.func f) c=>some (.fn (.func f) c,H,[],[])
  | .d (.ifc t d)=>some (.d (.ifc t d),H,[],[])
  | _=>none
def o_hd (op:BinOp) (x:X) (y:X):Option R4:=match x.ev T,y.ev T with
  | .d (.int k a),.d (.int k' b)=>(evInt op k a k' b).map fun d=>(.d d,H,[],[])
  | .d (.str a),.d (.str b)=>(evStr op a b).map fun d=>(.d d,H,[],[])
  | _,_=>none
def o_he (neg:Bool) (x:X) (y:X):Option R4:=match x.ev T,y.ev T with
  | .d (.bool a),.d (.bool b)=>some (.d (.bool (if neg then a != b else a==b)),H,[],[])
  | _,_=>none
def o_hf (op:UnOp) (x:X):Option R4:=match op,x.ev T with
  | .not,.d (.bool b)=>some (.d (.bool (!b)),H,[],[])
  | .neg,.d (.int k n)=>some (.d (.int k (k.wrap (0-n))),H,[],[])
  | .xor,.d (.int k n)=>some (.d (.int k (bits .xor k (if k.signed then -1 else k.max) n)),H,[],[])
  | _,_=>none
def o_hg (k:IntKind) (x:X):Option R4:=match x.ev T with
  | .d (.int _ n)=>some (.d (.int k (k.wrap n)),H,[],[])
  | _=>none
def o_hh (x:X):Option R4:=match x.ev T with
  | .d (.str b)=>some (.d (.str b),H,[],[])
  | _=>none
def o_hi (t:Nat) (x:X):Option R4:=match x.ev T with
  | .d x=>some (.d (.ifc t x),H,[],[])
  | _=>none
def o_hj (e:Nat) (s:Nat) (bytes:Nat) (z:List D) (n:X) (c:X):Option R4:=match n.ev T,c.ev T with
  | .d (.int _ a),.d (.int _ b)=>if 0≤a∧a=b∧(bytes:Int)*a≤281474976710656∧a≤281474976710656∧0<s then some (.own H.length s a.toNat,H++[some ⟨e,repl a.toNat z⟩],[],[H.length]) else none
  | _,_=>none
def o_hk (s:Nat) (x:X) (lo:Option X) (hi:Option X) (mx:Option X):Option R4:=(evSlice s (x.ev T) (bnd T 0 lo) (hiOf T (x.ev T) mx.isSome hi) (mx.map fun c=>intOf? (c.ev T))).map fun v=>(v,H,[],[])
def o_hl (off:Nat) (x:X):Option R4:=match x.ev T with
  | .p n o=>some (.p n (o+off),H,[],[])
  | .ia l o=>some (.ia l (o+off),H,[],[])
  | _=>none
def o_hm (g:Bool) (off:Nat) (s:Nat) (x:X):Option R4:=match x.ev T with
  | .d (.agg l)=>if g then (if off+s≤l.length then some (.d (.agg ((l.drop off).take s)),H,[],[]) else none) else (if off<l.length then some (.d (l.getD off default),H,[],[]) else none)
  | .agg l=>if g then (if off+s≤l.length then some (mkAgg ((l.drop off).take s),H,[],[]) else none) else (if off<l.length then some (l.getD off .junk,H,[],[]) else none)
  | _=>none
def o_hn (s:Nat) (x:X) (i:X):Option R4:=match x.ev T,i.ev T with
  | .d (.sl n l),.d (.int _ a)=>if 0≤a∧a<n∧a.toNat*s<l.length then some (.ia l (a.toNat*s),H,[],[]) else none
  | .own m s' n,.d (.int _ a)=>if 0≤a∧a<n∧s'=s then some (.p m (a.toNat*s),H,[],[]) else none
  | .row m o n,.d (.int _ a)=>if 0≤a∧a<n then some (.p m (o+a.toNat*s),H,[],[]) else none
  | _,_=>none
def o_ho (x:X) (i:Nat):Option R4:=match x.ev T with
  | .tup l=>if i<l.length then some (l.getD i .junk,H,[],[]) else none
  | _=>none
def o_hp (f:X) (xs:List X):Option R4:=match f.ev T with
  | .fn (.func g) caps=>cl g (xs.map (X.ev T)++caps) H
  | _=>none
def o_hq (r:X) (name:String) (xs:List X):Option R4:=match r.ev T with
  | .d (.ifc t d)=>match mt t name with
   | some g=>cl g (.d d::xs.map (X.ev T)) H
   | none=>none
  | _=>none
def o_hr (x:X):Option R4:=match lenV (x.ev T) with
  | some n=>some (.d (.int .i64 n),H,[],[])
  | none=>none
def o_hs (x:X):Option R4:=match x.ev T with
  | .d (.str s)=>some (.d (.int .i64 s.size),H,[],[])
  | _=>none
def o_ht (mx:Bool) (xs:List X):Option R4:=match minmaxI mx (xs.map (X.ev T)) with
  | some (k,n)=>some (.d (.int k n),H,[],[])
  | none=>none
def o_hu (e:Nat) (s:Nat) (bytes:Nat) (x:X) (y:X):Option R4:=match srcV s H (y.ev T) with
  | some (k,c,rd)=>match x.ev T with
   | .d .nilsl=>if k=0 then (if c.length=0 then some (.d .nilsl,H,rd,[]) else none) else (if 0<s∧0<bytes∧c.length=k*s∧k*bytes≤140737488355328 then some (.own H.length s k,H++[some ⟨e,c⟩],rd,[H.length]) else none)
   | .d .sl0=>if k=0 then (if c.length=0 then some (.d .sl0,H,rd,[]) else none) else (if 0<s∧0<bytes∧c.length=k*s∧k*bytes≤140737488355328 then some (.own H.length s k,H++[some ⟨e,c⟩],rd,[H.length]) else none)
   | .d (.slf q l)=>if 0<k∧0<s∧0<bytes∧l.length=q*s∧c.length=k*s∧(q+k)*bytes≤140737488355328 then some (.own H.length s (q+k),H++[some ⟨e,l.map .d++c⟩],rd,[H.length]) else none
   | .own n s' q=>match H.getD n none with
    | some ob=>if s'=s∧0<s∧0<bytes∧ob.T=e∧ob.c.length=q*s∧c.length=k*s∧(q+k)*bytes≤140737488355328 then some (.own H.length s (q+k),H.set n none++[some ⟨e,ob.c++c⟩],rd,[n,H.length]) else none
    | none=>none
   | _=>none
  | none=>none
def o_hv (x:X):Option R4:=match x.ev T with
  | .d .nilsl=>some (.d (.int .i64 0),H,[],[])
  | _=>none
def o_hw (s:Nat) (x:X) (y:X):Option R4:=match srcV s H (y.ev T),dstV s (x.ev T) with
  | some (k,c,rd),some (n,off,q)=>match H.getD n none with
   | some ob=>if ob.T<1000000 then (if k≤q∧c.length=k*s∧off+k*s≤ob.c.length then some (.d (.int .i64 k),H.set n (some ⟨ob.T,setMany ob.c off c⟩),rd,[n]) else none) else none
   | none=>none
  | _,_=>none
def o_hx (n:Nat) (s:Nat) (x:X) (i:X):Option R4:=match x.ev T,i.ev T with
  | .p m o,.d (.int _ a)=>if 0≤a∧a<n then some (.p m (o+a.toNat*s),H,[],[]) else none
  | .ia l o,.d (.int _ a)=>if 0≤a∧a<n then some (.ia l (o+a.toNat*s),H,[],[]) else none
  | _,_=>none
def o_hy (x:X) (i:X):Option R4:=match x.ev T,i.ev T with
  | .d (.str b),.d (.int _ a)=>if 0≤a∧a.toNat<b.size then some (.d (.int .u8 (b.data.toList.getD a.toNat 0).toNat),H,[],[]) else none
  | _,_=>none
def o_hz (x:X) (lo:Option X) (hi:Option X):Option R4:=match x.ev T with
  | .d (.str s)=>match bnd T 0 lo,bnd T s.size hi with
   | some a,some b=>if 0≤a∧a≤b∧b≤s.size then some (.d (.str (s.extract a.toNat b.toNat)),H,[],[]) else none
   | _,_=>none
  | _=>none
def o_i0 (l:List D) (n:Nat) (s:Nat) (i:X):Option R4:=match i.ev T with
  | .d (.int _ a)=>if 0≤a∧a<n then some (.ia l (a.toNat*s),H,[],[]) else none
  | _=>none
def o_i1 (x:X):Option R4:=match srcV 1 H (x.ev T) with
  | some (k,c,rd)=>match intsV c with
   | some ns=>if c.length=k then some (.d (.str (strOf ns)),H,rd,[]) else none
   | none=>none
  | none=>none
def o_i2 (n:Nat) (s:Nat) (x:X) (lo:Option X) (hi:Option X):Option R4:=match x.ev T,bnd T 0 lo,bnd T n hi with
  | .p m o,some a,some b=>if 0≤a∧a≤b∧b≤n∧n≤140737488355328 then some (.row m (o+a.toNat*s) (b-a).toNat,H,[],[]) else none
  | _,_,_=>none
def o_i3 (neg:Bool) (x:X):Option R4:=match x.ev T with
  | .d .nilsl=>some (.d (.bool (!neg)),H,[],[])
  | .d (.sl n _)=>if 0<n then some (.d (.bool neg),H,[],[]) else none
  | .own _ _ _=>some (.d (.bool neg),H,[],[])
  | .d .sle=>some (.d (.bool neg),H,[],[])
  | .row _ _ _=>some (.d (.bool neg),H,[],[])
  | _=>none
def o_i4 (neg:Bool) (x:X):Option R4:=match x.ev T with
  | .d .nilifc=>some (.d (.bool (!neg)),H,[],[])
  | .d (.ifc _ _)=>some (.d (.bool neg),H,[],[])
  | _=>none
def o_i5 (neg:Bool) (x:X):Option R4:=match x.ev T with
  | .d .nilp=>some (.d (.bool (!neg)),H,[],[])
  | .p _ _=>some (.d (.bool neg),H,[],[])
  | .ia _ _=>some (.d (.bool neg),H,[],[])
  | _=>none
def o_i6 (neg:Bool) (ks:List Nat) (x:X) (y:X):Option R4:=match x.ev T,y.ev T with
  | .d (.agg l),.d (.agg r)=>match eqKs ks l r with
   | some b=>some (.d (.bool (if neg then !b else b)),H,[],[])
   | none=>none
  | _,_=>none
def o_i7 (e:Nat) (s:Nat) (bytes:Nat) (z:List D) (x:X) (y:X):Option R4:=match x.ev T,y.ev T with
  | .d .nilsl,.d (.int .i64 k)=>if 0<k∧0<s∧0<bytes∧k*bytes≤140737488355328 then some (.own H.length s k.toNat,H++[some ⟨e,repl k.toNat z⟩],[],[H.length]) else none
  | _,_=>none
def o_i8 (s:Nat) (x:X) (hi:X):Option R4:=match x.ev T,hi.ev T with
  | .own n s' q,.d (.int _ b)=>match H.getD n none with
   | some ob=>if s'=s∧0≤b∧b≤q∧ob.T<1000000 then some (.own n s b.toNat,H.set n (some ⟨ob.T,ob.c.take (b.toNat*s)⟩),[],[n]) else none
   | none=>none
  | _,_=>none
def o_i9 (n:Nat) (s:Nat) (q:Bool) (x:X) (i:X):Option R4:=match x.ev T,i.ev T with
  | .d (.agg l),.d (.int _ a)=>if q then (if 0≤a∧a<n∧a.toNat*s+s≤l.length then some (.d (.agg ((l.drop (a.toNat*s)).take s)),H,[],[]) else none) else (if 0≤a∧a<n∧a.toNat*s<l.length then some (.d (l.getD (a.toNat*s) default),H,[],[]) else none)
  | .agg l,.d (.int _ a)=>if q then (if 0≤a∧a<n∧a.toNat*s+s≤l.length then some (mkAgg ((l.drop (a.toNat*s)).take s),H,[],[]) else none) else (if 0≤a∧a<n∧a.toNat*s<l.length then some (l.getD (a.toNat*s) .junk,H,[],[]) else none)
  | _,_=>none
def o_ia (t:Nat):Option R4:=some (.p H.length 0,H++[some ⟨t,[.junk]⟩],[],[H.length])
def o_ib (t:Nat):Option R4:=some (.mp H.length,H++[some ⟨t,[]⟩],[],[H.length])
def o_ic  : Option R4:=some (.mp H.length,H++[some ⟨1000002,[]⟩],[],[H.length])
def o_id (b:Nat) (x:X):Option R4:=match x.ev T with
  | .d (.int _ n)=>if 0≤n∧(b:Int)*n≤281474976710544∧n≤9223372036854775807 then some (.ch H.length,H++[some ⟨1000001,[.d (.int .i64 n)]⟩],[],[H.length]) else none
  | _=>none
def o_ie (x:X) (k:X):Option R4:=match x.ev T,k.ev T with
  | .mp n,.d (.str s)=>match H.getD n none with
   | some ob=>if ob.T=1000002 then (match V.toDs ob.c with
    | some ds=>(match sfind s ds with
     | some (some i)=>some (.tup [.d (sgetD ds i),.d (.bool true)],H,[n],[])
     | some none=>some (.tup [.d (.int .i64 0),.d (.bool false)],H,[n],[])
     | none=>none)
    | none=>none) else none
   | none=>none
  | _,_=>none
def o_if (x:X) (k:X) (v:X):Option R4:=match x.ev T,k.ev T,v.ev T with
  | .mp n,.d (.str s),.d (.int .i64 j)=>match H.getD n none with
   | some ob=>if ob.T=1000002 then (match V.toDs ob.c with
    | some ds=>(match sfind s ds with
     | some none=>if ds.length%2=0 then some (.junk,H.set n (some ⟨1000002,(ds++[D.str s,D.int .i64 j]).map V.d⟩),[],[n]) else none
     | _=>none)
    | none=>none) else none
   | none=>none
  | _,_,_=>none
def o_ig (z:List V) (ps:List (Nat×Nat×X)):Option R4:=match fillV z (ps.map fun p=>(p.1,p.2.1,p.2.2.ev T)) with
  | some c=>some (mkAgg c,H,[],[])
  | none=>none
def o_ih (t:Nat) (ks:List Nat) (vw:Nat) (g:Bool) (z:List D) (x:X) (k:X):Option R4:=match x.ev T,k.ev T with
  | .mp n,.d (.agg kl)=>match H.getD n none with
   | some ob=>if ob.T=t∧kl.length=ks.length then (match V.toDs ob.c with
    | some ds=>match mlook ks vw g z kl ds with
     | some y=>some (.d y,H,[n],[])
     | none=>none
    | none=>none) else none
   | none=>none
  | _,_=>none
def o_ii (t:Nat) (ks:List Nat) (vw:Nat) (g:Bool) (x:X) (k:X) (v:X):Option R4:=match x.ev T,k.ev T,v.ev T with
  | .mp n,.d (.agg kl),.d y=>match H.getD n none with
   | some ob=>if ob.T=t∧kl.length=ks.length∧y.isAgg=g then (match V.toDs ob.c with
    | some ds=>if y.cells.length=vw∧ds.length%(ks.length+vw)=0 then (match mset ks vw kl y.cells ds with
     | some ds'=>some (.junk,H.set n (some ⟨t,ds'.map .d⟩),[],[n])
     | none=>none) else none
    | none=>none) else none
   | none=>none
  | _,_,_=>none
def o_ij (t:Nat) (ks:List Nat) (vw:Nat) (g:Bool) (z:List D) (x:X) (k:X):Option R4:=match x.ev T,k.ev T with
  | .mp n,.d (.agg kl)=>match H.getD n none with
   | some ob=>if ob.T=t∧kl.length=ks.length then (match V.toDs ob.c with
    | some ds=>if ds.length%(ks.length+vw)=0 then (match mentD ks vw g z kl ds with
     | some (y,j,ds')=>some (.tup [.d y,.d (.int .i64 j)],H.set n (some ⟨t,ds'.map .d⟩),[],[n])
     | none=>none) else none
    | none=>none) else none
   | none=>none
  | _,_=>none
def o_ik (t:Nat) (ks:List Nat) (vw:Nat) (g:Bool) (x:X) (s:X) (v:X):Option R4:=match x.ev T,s.ev T,v.ev T with
  | .mp n,.d (.int .i64 j),.d y=>match H.getD n none with
   | some ob=>if ob.T=t∧y.isAgg=g then (match V.toDs ob.c with
    | some ds=>if y.cells.length=vw∧0≤j∧j.toNat<ds.length/(ks.length+vw) then some (.junk,H.set n (some ⟨t,(estoD ks.length vw j.toNat y.cells ds).map .d⟩),[],[n]) else none
    | none=>none) else none
   | none=>none
  | _,_,_=>none
def o_il (t:Nat) (w:Nat) (x:X):Option R4:=match x.ev T with
  | .mp n=>match H.getD n none with
   | some ob=>if ob.T=t then some (.p H.length 0,H++[some ⟨1000000,[.mp n,.d (.int .i64 (ob.c.length/w:Nat))]⟩],[n],[H.length]) else none
   | none=>none
  | _=>none
def o_im (x:X):Option R4:=match x.ev T with
  | .p n 0=>match H.getD n none with
   | some ob=>match iterV ob with
    | some (k,N,l)=>match H.getD k none with
     | some obk=>if 1000000<obk.T∧0<tagK obk.T∧obk.c.length/(tagK obk.T+tagV obk.T)=N then (match (List.range N).filter (fun i=>!l.contains i) with
      | []=>some (.tup [.d (.bool false)],H,[k,n],[])
      | [i]=>some (.tup [.d (.bool true),.junk,.junk],H.set n (some ⟨1000000,ob.c++[.d (.int .i64 i)]⟩),[k],[n])
      | _=>none) else none
     | none=>none
    | none=>none
   | none=>none
  | _=>none
def o_in (x:X):Option R4:=match x.ev T with
  | .p n 0=>match H.getD n none with
   | some ob=>match iterV ob with
    | some (k,N,l)=>match H.getD k none with
     | some obk=>match V.toDs obk.c,l.getLast? with
      | some ds,some i=>if 1000000<obk.T∧0<tagK obk.T∧ds.length/(tagK obk.T+tagV obk.T)=N∧i<N∧(tagG obk.T=true∨tagV obk.T=1) then some (.tup [.d (.agg ((ds.drop (i*(tagK obk.T+tagV obk.T))).take (tagK obk.T))),.d (glD (tagG obk.T) ((ds.drop (i*(tagK obk.T+tagV obk.T)+tagK obk.T)).take (tagV obk.T)))],H,[k,n],[]) else none
      | _,_=>none
     | none=>none
    | none=>none
   | none=>none
  | _=>none
def A.ev:A→Option R4
 | .mv x=>some (x.ev T,H,[],[])
 | .pick c a b=>o_h5 T H c a b
 | .new e z=>o_h6 H e z
 | .box e x=>o_h7 T H e x
 | .build z ps=>o_h8 T H z ps
 | .bsl e s n z ps=>o_h9 T H e s n z ps
 | .load g s x=>o_ha T H g s x
 | .store s x y=>o_hb T H s x y
 | .chk x=>o_hc T H x
 | .bin op x y=>o_hd T H op x y
 | .beq neg x y=>o_he T H neg x y
 | .un op x=>o_hf T H op x
 | .conv k x=>o_hg T H k x
 | .cstr x=>o_hh T H x
 | .ifc t x=>o_hi T H t x
 | .mkf f cs=>some (.fn f (cs.map (X.ev T)),H,[],[])
 | .mksl e s bytes z n c=>o_hj T H e s bytes z n c
 | .slice s x lo hi mx=>o_hk T H s x lo hi mx
 | .fa off x=>o_hl T H off x
 | .fld g off s x=>o_hm T H g off s x
 | .ix s x i=>o_hn T H s x i
 | .ext x i=>o_ho T H x i
 | .call f xs=>cl f (xs.map (X.ev T)) H
 | .callv f xs=>o_hp T H cl f xs
 | .inv r name xs=>o_hq T H cl mt r name xs
 | .len x=>o_hr T H x
 | .lens x=>o_hs T H x
 | .mm mx xs=>o_ht T H mx xs
 | .app e s bytes x y=>o_hu T H e s bytes x y
 | .capn x=>o_hv T H x
 | .cpy s x y=>o_hw T H s x y
 | .bsl0=>some (.d .sl0,H,[],[])
 | .ixa n s x i=>o_hx T H n s x i
 | .gstr x i=>o_hy T H x i
 | .sstr x lo hi=>o_hz T H x lo hi
 | .gix l n s i=>o_i0 T H l n s i
 | .bstr x=>o_i1 T H x
 | .sla n s x lo hi=>o_i2 T H n s x lo hi
 | .snl neg x=>o_i3 T H neg x
 | .inl neg x=>o_i4 T H neg x
 | .pnl neg x=>o_i5 T H neg x
 | .aeq neg ks x y=>o_i6 T H neg ks x y
 | .appz e s bytes z x y=>o_i7 T H e s bytes z x y
 | .cut s x hi=>o_i8 T H s x hi
 | .ixv n s q x i=>o_i9 T H n s q x i
 | .newj t=>o_ia H t
 | .mkm t=>o_ib H t
 | .mkS=>o_ic H
 | .mkc b x=>o_id T H b x
 | .mgS x k=>o_ie T H x k
 | .mpS x k v=>o_if T H x k v
 | .bldj z ps=>o_ig T H z ps
 | .mget t ks vw g z x k=>o_ih T H t ks vw g z x k
 | .mput t ks vw g x k v=>o_ii T H t ks vw g x k v
 | .ment t ks vw g z x k=>o_ij T H t ks vw g z x k
 | .esto t ks vw g x s v=>o_ik T H t ks vw g x s v
 | .mrng t w x=>o_il T H t w x
 | .mnx x=>o_im T H x
 | .mety x=>o_in T H x
 | .tou _=>none
 | .fru _ _=>none
 | .mkb _ _=>none
 | .peq _ _ _=>none
 | .apps _ _ _ _ _=>none
 | .sdat _=>none
 | .ustr _ _ _=>none
 | .bad=>none
end
set_option maxHeartbeats 4000000 in
theorem A.ev_ok {P:Program} {T:List V} {H:List (Option Ob)} {cl:FuncId→List V→List (Option Ob)→Option R4} {mt:TypeId→String→Option FuncId}
  (hcl:∀f args H r,cl f args H=some r→∀K,R4.then r K→CallS P f args H K) (hmt:∀t name g,mt t name=some g→MethOK P t name g) (a:A) (r:R4) (h:A.ev T H cl mt a=some r) (K:V→List (Option Ob)→List Nat→List Nat→Prop) (hK:R4.then r K):A.step P T H K a:=by
 unfold R4.then at hK
 cases a
 case mnx x =>
  simp only [A.ev,o_h5,o_h6,o_h7,o_h8,o_h9,o_ha,o_hb,o_hc,o_hd,o_he,o_hf,o_hg,o_hh,o_hi,o_hj,o_hk,o_hl,o_hm,o_hn,o_ho,o_hp,o_hq,o_hr,o_hs,o_ht,o_hu,o_hv,o_hw,o_hx,o_hy,o_hz,o_i0,o_i1,o_i2,o_i3,o_i4,o_i5,o_i6,o_i7,o_i8,o_i9,o_ia,o_ib,o_ic,o_id,o_ie,o_if,o_ig,o_ih,o_ii,o_ij,o_ik,o_il,o_im,o_in] at h
  simp only [A.step]
  repeat' (split at h)
  all_goals first
   | (cases h;done)
   | skip
  all_goals first
   | (rename_i hc x0 i hf
      cases h
      have hm:∀z,z∈[i]→_:=fun z hz=>List.mem_filter.1 (hf.symm▸hz)
      have hs:∀z,_→z∈[i]:=fun z hz=>hf▸List.mem_filter.2 hz
      simp only [*]
      refine ⟨by first | trivial | exact hc.1,by first | trivial | exact hc.2 | exact ⟨trivial,trivial⟩ | exact ⟨trivial,hc.2.2⟩,fun j hj hl=>?_,fun hall=>?_⟩
      ·have:=hs j ⟨List.mem_range.2 (by first | exact hj | exact hc.2.2▸hj),by simpa using hl⟩
       rw [List.mem_singleton] at this;subst this;first | exact hK | trivial
      ·have h2:=hm i (List.mem_singleton.2 rfl)
       exact absurd (hall i (by first | exact List.mem_range.1 h2.1 | exact hc.2.2▸List.mem_range.1 h2.1)) (by simpa using h2.2))
   | (rename_i hc x0 hf
      cases h
      have hs:∀z,_→z∈([]:List Nat):=fun z hz=>hf▸List.mem_filter.2 hz
      simp only [*]
      refine ⟨by first | trivial | exact hc.1,by first | trivial | exact hc.2 | exact ⟨trivial,trivial⟩ | exact ⟨trivial,hc.2.2⟩,fun j hj hl=>?_,fun hall=>?_⟩
      ·exact absurd (hs j ⟨List.mem_range.2 (by first | exact hj | exact hc.2.2▸hj),by simpa using hl⟩) (by simp)
      ·first | exact hK | trivial)
 all_goals simp only [A.ev,o_h5,o_h6,o_h7,o_h8,o_h9,o_ha,o_hb,o_hc,o_hd,o_he,o_hf,o_hg,o_hh,o_hi,o_hj,o_hk,o_hl,o_hm,o_hn,o_ho,o_hp,o_hq,o_hr,o_hs,o_ht,o_hu,o_hv,o_hw,o_hx,o_hy,o_hz,o_i0,o_i1,o_i2,o_i3,o_i4,o_i5,o_i6,o_i7,o_i8,o_i9,o_ia,o_ib,o_ic,o_id,o_ie,o_if,o_ig,o_ih,o_ii,o_ij,o_ik,o_il,o_im,o_in] at h
 all_goals simp only [A.step]
 all_goals first
  | (cases h;done)
  | (cases h;exact hK)
  | exact hcl _ _ _ _ h K hK
  | skip
 all_goals (repeat' (split at h))<;>first
  | (cases h;done)
  | (cases h;simp_all [need];done)
  | exact hcl _ _ _ _ h K hK
  | (simp_all [need];done)
  | (simp_all;exact hcl _ _ _ _ h K hK)
  | (simp_all;exact ⟨_,hmt _ _ _ (by assumption),hcl _ _ _ _ h K hK⟩)
  | (obtain ⟨d,hd,rfl⟩:=Option.map_eq_some_iff.1 h;exact o_h4 hd hK)
  | (obtain ⟨d,hd,rfl⟩:=Option.map_eq_some_iff.1 h;simp only [*];exact o_h2 hd hK)
  | (obtain ⟨d,hd,rfl⟩:=Option.map_eq_some_iff.1 h;simp only [*];exact o_h3 hd hK)
  | (rename_i hx hy hc;cases h;rw [hx,hy];exact ⟨hc,hK⟩)
  | (simp only [*];exact hcl _ _ _ _ h K hK)
  | (simp only [*];exact ⟨_,hmt _ _ _ (by assumption),hcl _ _ _ _ h K hK⟩)

def bindL {α β:Type}:List α→(α→Option (List β))→Option (List β)
 | [],_=>some []
 | a::l,f=>match f a with
  | none=>none
  | some x=>match bindL l f with
   | none=>none
   | some y=>some (x++y)
theorem o_io {α β:Type} {f:α→Option (List β)}:∀{l:List α} {ys:List β},bindL l f=some ys→∀a∈l,∃x,f a=some x∧∀b∈x,b∈ys
 | [],ys,h,a,ha=>absurd ha (by simp)
 | a0::l,ys,h,a,ha=>by
  unfold bindL at h
  split at h
  ·cases h
  ·rename_i x hx
   split at h
   ·cases h
   ·rename_i y hy
    cases h
    rcases List.mem_cons.1 ha with rfl | ha
    ·exact ⟨x,hx,fun b hb=>List.mem_append.2 (.inl hb)⟩
    ·obtain ⟨x',h1,h2⟩:=o_io hy a ha
     exact ⟨x',h1,fun b hb=>List.mem_append.2 (.inr (h2 b hb))⟩
def A.evs (T:List V) (H:List (Option Ob)) (cl:FuncId→List V→List (Option Ob)→Option R4) (mt:TypeId→String→Option FuncId):A→Option (List R4)
 | .mnx x=>match x.ev T with
  | .p n 0=>match H.getD n none with
   | some ob=>match iterV ob with
    | some (k,N,l)=>match H.getD k none with
     | some obk=>if 1000000<obk.T∧0<tagK obk.T∧obk.c.length/(tagK obk.T+tagV obk.T)=N then (match (List.range N).filter (fun i=>!l.contains i) with
      | []=>some [(.tup [.d (.bool false)],H,[k,n],[])]
      | i::is=>some ((i::is).map fun (i:Nat)=>(.tup [.d (.bool true),.junk,.junk],H.set n (some ⟨1000000,ob.c++[.d (.int .i64 i)]⟩),[k],[n]))) else none
     | none=>none
    | none=>none
   | none=>none
  | _=>none
 | a=>(A.ev T H cl mt a).map fun r=>[r]
set_option maxHeartbeats 4000000 in
theorem A.evs_ok {P:Program} {T:List V} {H:List (Option Ob)} {cl:FuncId→List V→List (Option Ob)→Option R4} {mt:TypeId→String→Option FuncId}
  (hcl:∀f args H r,cl f args H=some r→∀K,R4.then r K→CallS P f args H K) (hmt:∀t name g,mt t name=some g→MethOK P t name g) (a:A) (rs:List R4) (h:A.evs T H cl mt a=some rs) (K:V→List (Option Ob)→List Nat→List Nat→Prop) (hK:∀r∈rs,R4.then r K):A.step P T H K a:=by
 cases a
 case mnx x =>
  simp only [A.evs] at h
  simp only [A.step]
  repeat' (split at h)
  all_goals first
   | (cases h;done)
   | skip
  all_goals first
   | (rename_i hc x0 hf
      cases h
      have hK:=hK _ (List.mem_singleton.2 rfl)
      unfold R4.then at hK
      have hs:∀z,_→z∈([]:List Nat):=fun z hz=>hf▸List.mem_filter.2 hz
      simp only [*]
      refine ⟨by first | trivial | exact hc.1,by first | trivial | exact hc.2 | exact ⟨trivial,trivial⟩ | exact ⟨trivial,hc.2.2⟩,fun j hj hl=>?_,fun hall=>?_⟩
      ·exact absurd (hs j ⟨List.mem_range.2 (by first | exact hj | exact hc.2.2▸hj),by simpa using hl⟩) (by simp)
      ·first | exact hK | trivial)
   | (rename_i hc x0 i is hf
      cases h
      have hm:∀z,z∈i::is→_:=fun z hz=>List.mem_filter.1 (hf.symm▸hz)
      have hs:∀z,_→z∈i::is:=fun z hz=>hf▸List.mem_filter.2 hz
      simp only [*]
      refine ⟨by first | trivial | exact hc.1,by first | trivial | exact hc.2 | exact ⟨trivial,trivial⟩ | exact ⟨trivial,hc.2.2⟩,fun j hj hl=>?_,fun hall=>?_⟩
      ·have h2:=hs j ⟨List.mem_range.2 (by first | exact hj | exact hc.2.2▸hj),by simpa using hl⟩
       have h3:=hK _ (List.mem_map.2 ⟨j,h2,rfl⟩)
       unfold R4.then at h3
       first | exact h3 | trivial
      ·have h2:=hm i (List.mem_cons_self ..)
       exact absurd (hall i (by first | exact List.mem_range.1 h2.1 | exact hc.2.2▸List.mem_range.1 h2.1)) (by simpa using h2.2))
 all_goals
  simp only [A.evs,Option.map_eq_some_iff] at h
  obtain ⟨r,h1,h2⟩:=h
  cases h2
  exact A.ev_ok hcl hmt _ r h1 K (hK r (List.mem_singleton.2 rfl))

mutual
def D.beq:D→D→Bool
 | .int k n,.int k' n'=>decide (k=k')&&decide (n=n')
 | .bool a,.bool b=>decide (a=b)
 | .str a,.str b=>decide (a=b)
 | .agg l,.agg r=>D.beqs l r
 | .sl n l,.sl m r=>Nat.beq n m&&D.beqs l r
 | .slf n l,.slf m r=>Nat.beq n m&&D.beqs l r
 | .nilsl,.nilsl | .sl0,.sl0 | .sle,.sle | .nilifc,.nilifc | .nilp,.nilp | .nilfn,.nilfn=>true
 | .ifc t d,.ifc u e=>Nat.beq t u&&D.beq d e
 | .ptr l o,.ptr r p=>Nat.beq o p&&D.beqs l r
 | _,_=>false
def D.beqs:List D→List D→Bool
 | [],[]=>true
 | a::l,b::r=>D.beq a b&&D.beqs l r
 | _,_=>false
end
mutual
theorem D.beq_ok:∀(a b:D),D.beq a b=true→a=b
 | .int _ _,b,h=>by cases b<;>simp_all [D.beq]
 | .bool _,b,h=>by cases b<;>simp_all [D.beq]
 | .str _,b,h=>by cases b<;>simp_all [D.beq]
 | .agg l,b,h=>by
  cases b with
  | agg r=>rw [D.beqs_ok l r (by simpa only [D.beq] using h)]
  | _=>simp [D.beq] at h
 | .sl n l,b,h=>by
  cases b with
  | sl m r=>simp only [D.beq,Bool.and_eq_true] at h;rw [D.beqs_ok l r h.2,Nat.eq_of_beq_eq_true h.1]
  | _=>simp [D.beq] at h
 | .slf n l,b,h=>by
  cases b with
  | slf m r=>simp only [D.beq,Bool.and_eq_true] at h;rw [D.beqs_ok l r h.2,Nat.eq_of_beq_eq_true h.1]
  | _=>simp [D.beq] at h
 | .nilsl,b,h=>by cases b<;>simp_all [D.beq]
 | .sl0,b,h=>by cases b<;>simp_all [D.beq]
 | .sle,b,h=>by cases b<;>simp_all [D.beq]
 | .nilifc,b,h=>by cases b<;>simp_all [D.beq]
 | .nilp,b,h=>by cases b<;>simp_all [D.beq]
 | .nilfn,b,h=>by cases b<;>simp_all [D.beq]
 | .ifc t d,b,h=>by
  cases b with
  | ifc u e=>simp only [D.beq,Bool.and_eq_true] at h;rw [D.beq_ok d e h.2,Nat.eq_of_beq_eq_true h.1]
  | _=>simp [D.beq] at h
 | .ptr l o,b,h=>by
  cases b with
  | ptr r p=>simp only [D.beq,Bool.and_eq_true] at h;rw [D.beqs_ok l r h.2,Nat.eq_of_beq_eq_true h.1]
  | _=>simp [D.beq] at h
theorem D.beqs_ok:∀(l r:List D),D.beqs l r=true→l=r
 | [],r,h=>by cases r<;>simp_all [D.beqs]
 | a::l,r,h=>by
  cases r with
  | nil=>simp [D.beqs] at h
  | cons b r=>simp only [D.beqs,Bool.and_eq_true] at h;rw [D.beq_ok a b h.1,D.beqs_ok l r h.2]
end
mutual
def V.beq:V→V→Bool
 | .d a,.d b=>D.beq a b
 | .agg l,.agg r=>V.beqs l r
 | .tup l,.tup r=>V.beqs l r
 | .p n o,.p m q=>Nat.beq n m&&Nat.beq o q
 | .row n o k,.row m q j=>Nat.beq n m&&Nat.beq o q&&Nat.beq k j
 | .own n o k,.own m q j=>Nat.beq n m&&Nat.beq o q&&Nat.beq k j
 | .mp n,.mp m=>Nat.beq n m
 | .ch n,.ch m=>Nat.beq n m
 | .junk,.junk=>true
 | _,_=>false
def V.beqs:List V→List V→Bool
 | [],[]=>true
 | a::l,b::r=>V.beq a b&&V.beqs l r
 | _,_=>false
end
mutual
theorem V.beq_ok:∀(a b:V),V.beq a b=true→a=b
 | .d x,b,h=>by
  cases b with
  | d y=>rw [D.beq_ok x y (by simpa only [V.beq] using h)]
  | _=>simp [V.beq] at h
 | .agg l,b,h=>by
  cases b with
  | agg r=>rw [V.beqs_ok l r (by simpa only [V.beq] using h)]
  | _=>simp [V.beq] at h
 | .tup l,b,h=>by
  cases b with
  | tup r=>rw [V.beqs_ok l r (by simpa only [V.beq] using h)]
  | _=>simp [V.beq] at h
 | .p _ _,b,h=>by cases b<;>simp_all [V.beq]
 | .row _ _ _,b,h=>by cases b<;>simp_all [V.beq]
 | .own _ _ _,b,h=>by cases b<;>simp_all [V.beq]
 | .mp _,b,h=>by cases b<;>simp_all [V.beq]
 | .ch _,b,h=>by cases b<;>simp_all [V.beq]
 | .fn _ _,b,h=>by cases b<;>simp [V.beq] at h
 | .fb _ _,b,h=>by cases b<;>simp [V.beq] at h
 | .junk,b,h=>by cases b<;>simp_all [V.beq]
theorem V.beqs_ok:∀(l r:List V),V.beqs l r=true→l=r
 | [],r,h=>by cases r<;>simp_all [V.beqs]
 | a::l,r,h=>by
  cases r with
  | nil=>simp [V.beqs] at h
  | cons b r=>simp only [V.beqs,Bool.and_eq_true] at h;rw [V.beq_ok a b h.1,V.beqs_ok l r h.2]
end
def obsB:List Ob→List Ob→Bool
 | [],[]=>true
 | a::l,b::r=>Nat.beq a.T b.T&&V.beqs a.c b.c&&obsB l r
 | _,_=>false
theorem o_ip:∀{l r:List Ob},obsB l r=true→l=r
 | [],[],_=>rfl
 | ⟨t,c⟩::l,⟨u,d⟩::r,h=>by
  simp only [obsB,Bool.and_eq_true] at h
  rw [Nat.eq_of_beq_eq_true h.1.1,V.beqs_ok _ _ h.1.2,o_ip h.2]
 | [],_::_,h=>by simp [obsB] at h
 | _::_,[],h=>by simp [obsB] at h

mutual
def V.names:V→List Nat
 | .d _ | .junk=>[]
 | .agg l | .tup l | .fn _ l | .fb _ l=>V.namess l
 | .p n _ | .row n _ _ | .own n _ _ | .mp n | .ch n=>[n]
def V.namess:List V→List Nat
 | []=>[]
 | x::l=>x.names++V.namess l
end

mutual
def V.strd (n:Nat):V→Nat
 | .own k s _=>if k=n then s else 0
 | .agg l | .tup l | .fn _ l | .fb _ l=>V.strds n l
 | _=>0
def V.strds (n:Nat):List V→Nat
 | []=>0
 | x::l=>match x.strd n with
  | 0=>V.strds n l
  | s=>s
end
def strdH (n:Nat):List (Option Ob)→Nat
 | []=>1
 | some ob::l=>(match V.strds n ob.c with
  | 0=>strdH n l
  | s=>s)
 | none::l=>strdH n l
def fz1 (n:Nat) (r:List V×List (Option Ob)):List V×List (Option Ob):=match r.2.getD n none with
 | some ob=>match Nat.blt ob.T 1000000,V.toDs ob.c with
  | true,some ds =>
   let s:=match V.strds n r.1 with
    | 0=>strdH n r.2
    | s=>s
   (r.1.map (V.frz n s ds),frzH n s ds r.2)
  | _,_=>r
 | none=>r
def fzAll:List Nat→List V×List (Option Ob)→List V×List (Option Ob)
 | [],r=>r
 | n::l,r=>fzAll l (fz1 n r)
theorem o_iq {P:Program} {L:Nat} {c:C} {Q:Exit→List V→List (Option Ob)→Prop} (n:Nat) (r:List V×List (Option Ob)) (h:AW P L c Q (fz1 n r).1 (fz1 n r).2):AW P L c Q r.1 r.2:=by
 unfold fz1 at h
 split at h
 ·rename_i ob hn
  split at h
  ·rename_i ds hT hd
   exact AW.freeze n _ ob ds hn (V.toDs_eq hd) h hT
  ·exact h
 ·exact h
theorem o_ir {P:Program} {L:Nat} {c:C} {Q:Exit→List V→List (Option Ob)→Prop}:∀(l:List Nat) (r:List V×List (Option Ob)),AW P L c Q (fzAll l r).1 (fzAll l r).2→AW P L c Q r.1 r.2
 | [],r,h=>h
 | n::l,r,h=>o_iq n r (o_ir l _ h)
def V.norm1:V→V
 | .agg l=>mkAgg l
 | x=>x
def V.norm:V→V
 | .agg l=>mkAgg l
 | .tup l=>.tup (l.map V.norm1)
 | x=>x
theorem V.norm1_sub (x:V):Sub1 x x.norm1:=fun m v h=>by
 cases x with
 | agg l =>
  unfold V.rep at h
  obtain ⟨vs,rfl,h1,h2⟩:=h
  exact o_3 h2 h1
 | _=>exact h
theorem V.norms_sub:∀(l:List V) (m:Mem) (vs:List Value),V.reps m l vs→V.reps m (l.map V.norm1) vs
 | [],m,vs,h=>h
 | x::l,m,vs,h=>by
  unfold V.reps at h
  obtain ⟨v,r,rfl,h1,h2⟩:=h
  rw [List.map_cons]
  unfold V.reps
  exact ⟨v,r,rfl,V.norm1_sub x m v h1,V.norms_sub l m r h2⟩
theorem V.norm_sub (x:V):Sub1 x x.norm:=fun m v h=>by
 cases x with
 | agg l=>exact V.norm1_sub _ m v h
 | tup l =>
  unfold V.norm
  unfold V.rep at h ⊢
  obtain ⟨vs,h1,h2⟩:=h
  exact ⟨vs,h1,V.norms_sub l m vs h2⟩
 | _=>exact h

def forceN {R:Type}:Nat→(Nat→R)→R
 | 0,f=>f 0
 | n+1,f=>f (n+1)
theorem o_is {R:Type} (n:Nat) (f:Nat→R):forceN n f=f n:=by cases n<;>rfl
def forceI {R:Type}:Int→(Int→R)→R
 | .ofNat n,f=>forceN n fun m=>f (.ofNat m)
 | .negSucc n,f=>forceN n fun m=>f (.negSucc m)
theorem o_it {R:Type} (n:Int) (f:Int→R):forceI n f=f n:=by cases n<;>simp only [forceI,o_is]
mutual
def D.force {R:Type}:D→(D→R)→R
 | .int k n,f=>forceI n fun m=>f (.int k m)
 | .bool true,f=>f (.bool true)
 | .bool false,f=>f (.bool false)
 | .str s,f=>f (.str s)
 | .agg l,f=>D.forces l fun r=>f (.agg r)
 | .sl n l,f=>forceN n fun m=>D.forces l fun r=>f (.sl m r)
 | .slf n l,f=>forceN n fun m=>D.forces l fun r=>f (.slf m r)
 | .nilsl,f=>f .nilsl
 | .sl0,f=>f .sl0
 | .sle,f=>f .sle
 | .nilifc,f=>f .nilifc
 | .nilp,f=>f .nilp
 | .nilfn,f=>f .nilfn
 | .ifc t d,f=>D.force d fun e=>f (.ifc t e)
 | .ptr l o,f=>forceN o fun m=>D.forces l fun r=>f (.ptr r m)
def D.forces {R:Type}:List D→(List D→R)→R
 | [],f=>f []
 | x::l,f=>D.force x fun y=>D.forces l fun r=>f (y::r)
end
mutual
theorem D.force_eq {R:Type}:∀(x:D) (f:D→R),D.force x f=f x
 | .int k n,f=>by simp only [D.force,o_it]
 | .bool true,f=>by simp only [D.force]
 | .bool false,f=>by simp only [D.force]
 | .str s,f=>by simp only [D.force]
 | .agg l,f=>by simp only [D.force];rw [D.forces_eq l]
 | .sl n l,f=>by simp only [D.force,o_is];rw [D.forces_eq l]
 | .slf n l,f=>by simp only [D.force,o_is];rw [D.forces_eq l]
 | .nilsl,f=>by simp only [D.force]
 | .sl0,f=>by simp only [D.force]
 | .sle,f=>by simp only [D.force]
 | .nilifc,f=>by simp only [D.force]
 | .nilp,f=>by simp only [D.force]
 | .nilfn,f=>by simp only [D.force]
 | .ifc t d,f=>by simp only [D.force];rw [D.force_eq d]
 | .ptr l o,f=>by simp only [D.force,o_is];rw [D.forces_eq l]
theorem D.forces_eq {R:Type}:∀(l:List D) (f:List D→R),D.forces l f=f l
 | [],f=>by simp only [D.forces]
 | x::l,f=>by simp only [D.forces];rw [D.force_eq x,D.forces_eq l]
end
mutual
def V.force {R:Type}:V→(V→R)→R
 | .d x,f=>D.force x fun y=>f (.d y)
 | .agg l,f=>V.forces l fun r=>f (.agg r)
 | .tup l,f=>V.forces l fun r=>f (.tup r)
 | .p n o,f=>forceN n fun m=>forceN o fun q=>f (.p m q)
 | .row n o k,f=>forceN n fun m=>forceN o fun q=>forceN k fun j=>f (.row m q j)
 | .own n o k,f=>forceN n fun m=>forceN o fun q=>forceN k fun j=>f (.own m q j)
 | .mp n,f=>forceN n fun m=>f (.mp m)
 | .ch n,f=>forceN n fun m=>f (.ch m)
 | .fn g l,f=>V.forces l fun r=>f (.fn g r)
 | .fb g l,f=>V.forces l fun r=>f (.fb g r)
 | .junk,f=>f .junk
def V.forces {R:Type}:List V→(List V→R)→R
 | [],f=>f []
 | x::l,f=>V.force x fun y=>V.forces l fun r=>f (y::r)
end
mutual
theorem V.force_eq {R:Type}:∀(x:V) (f:V→R),V.force x f=f x
 | .d x,f=>by simp only [V.force,D.force_eq]
 | .agg l,f=>by simp only [V.force];rw [V.forces_eq l]
 | .tup l,f=>by simp only [V.force];rw [V.forces_eq l]
 | .p n o,f=>by simp only [V.force,o_is]
 | .row n o k,f=>by simp only [V.force,o_is]
 | .own n o k,f=>by simp only [V.force,o_is]
 | .mp n,f=>by simp only [V.force,o_is]
 | .ch n,f=>by simp only [V.force,o_is]
 | .fn g l,f=>by simp only [V.force];rw [V.forces_eq l]
 | .fb g l,f=>by simp only [V.force];rw [V.forces_eq l]
 | .junk,f=>by simp only [V.force]
theorem V.forces_eq {R:Type}:∀(l:List V) (f:List V→R),V.forces l f=f l
 | [],f=>by simp only [V.forces]
 | x::l,f=>by simp only [V.forces];rw [V.force_eq x,V.forces_eq l]
end
def forceQ {R:Type} (x:V) (f:V→R):R:=match x with
 | .d y=>(match y with
  | .int k n=>forceI n fun m=>f (.d (.int k m))
  | .bool b=>(match b with
   | true=>f (.d (.bool true))
   | false=>f (.d (.bool false)))
  | z=>D.force z fun w=>f (.d w))
 | .p n o=>forceN n fun m=>forceN o fun q=>f (.p m q)
 | .junk=>f .junk
 | z=>V.force z f
theorem o_iu {R:Type} (x:V) (f:V→R):forceQ x f=f x:=by
 unfold forceQ
 split
 ·split
  ·rw [o_it]
  ·split<;>rfl
  ·rw [D.force_eq]
 ·simp only [o_is]
 ·rfl
 ·rw [V.force_eq]
def forceQs {R:Type}:List V→(List V→R)→R
 | [],f=>f []
 | x::l,f=>forceQ x fun y=>forceQs l fun r=>f (y::r)
theorem o_iv {R:Type}:∀(l:List V) (f:List V→R),forceQs l f=f l
 | [],f=>by simp only [forceQs]
 | x::l,f=>by simp only [forceQs];rw [o_iu x,o_iv l]
def setC {R:Type}:List V→Nat→V→(List V→R)→R
 | [],_,_,f=>f []
 | _::l,0,x,f=>f (x::l)
 | a::l,n+1,x,f=>setC l n x fun r=>f (a::r)
theorem o_iw {R:Type}:∀(l:List V) (n:Nat) (x:V) (f:List V→R),setC l n x f=f (l.set n x)
 | [],n,x,f=>by simp only [setC,List.set_nil]
 | a::l,0,x,f=>by simp only [setC,List.set_cons_zero]
 | a::l,n+1,x,f=>by simp only [setC,List.set_cons_succ];rw [o_iw l n x]
def putC {R:Type} (T:List V):Option Nat→V→(List V→R)→R
 | none,_,f=>f T
 | some n,x,f=>forceQ x fun y=>setC T n y f
theorem o_ix {R:Type} (T:List V) (d:Option Nat) (x:V) (f:List V→R):putC T d x f=f (putT T d x):=by
 cases d with
 | none=>rfl
 | some n=>simp only [putC,o_iu,o_iw];rfl
def forceO {R:Type}:Option Ob→(Option Ob→R)→R
 | none,f=>f none
 | some ⟨t,c⟩,f=>forceQs c fun r=>f (some ⟨t,r⟩)
theorem o_iy {R:Type} (o:Option Ob) (f:Option Ob→R):forceO o f=f o:=by
 cases o with
 | none=>rfl
 | some ob=>simp only [forceO,o_iv]
def forceH {R:Type} (wr:List Nat):Nat→List (Option Ob)→(List (Option Ob)→R)→R
 | _,[],f=>f []
 | i,a::l,f=>match wr.any (Nat.beq i) with
  | true=>forceO a fun b=>forceH wr (i+1) l fun r=>f (b::r)
  | false=>forceH wr (i+1) l fun r=>f (a::r)
theorem o_iz {R:Type} (wr:List Nat):∀(i:Nat) (l:List (Option Ob)) (f:List (Option Ob)→R),forceH wr i l f=f l
 | i,[],f=>by simp only [forceH]
 | i,a::l,f=>by
  unfold forceH
  split
  ·rw [o_iy,o_iz wr (i+1) l]
  ·rw [o_iz wr (i+1) l]
def forceHs {R:Type}:List Ob→(List Ob→R)→R
 | [],f=>f []
 | ⟨t,c⟩::l,f=>forceQs c fun r=>forceHs l fun q=>f (⟨t,r⟩::q)
theorem o_j0 {R:Type}:∀(l:List Ob) (f:List Ob→R),forceHs l f=f l
 | [],f=>by simp only [forceHs]
 | ⟨t,c⟩::l,f=>by simp only [forceHs];rw [o_iv,o_j0 l]
def forceW {R:Type}:List Nat→(List Nat→R)→R
 | [],f=>f []
 | a::l,f=>forceN a fun b=>forceW l fun r=>f (b::r)
theorem o_j1 {R:Type}:∀(l:List Nat) (f:List Nat→R),forceW l f=f l
 | [],f=>by simp only [forceW]
 | a::l,f=>by simp only [forceW,o_is];rw [o_j1 l]
def forceR {R:Type} (H:List (Option Ob)) (r:R4) (f:V→List (Option Ob)→List Nat→List Nat→R):R:=forceW r.2.2.1 fun rd=>forceW r.2.2.2 fun wr=>match wr with
 | []=>forceH [] 0 r.2.1 fun h=>f r.1 h rd []
 | w=>forceH w 0 r.2.1 fun h=>f r.1 h rd w
theorem o_j2 {R:Type} (H:List (Option Ob)) (r:R4) (f:V→List (Option Ob)→List Nat→List Nat→R):forceR H r f=f r.1 r.2.1 r.2.2.1 r.2.2.2:=by
 unfold forceR
 simp only [o_j1]
 split<;>simp_all only [o_iz]

section
variable (cl:FuncId→List V→List (Option Ob)→Option R4) (mt:TypeId→String→Option FuncId)
def evOps (draw:Bool):List O→List E→List V→List (Option Ob)→Option (List (List V×List (Option Ob)))
 | [],tr,T,H=>if draw then (if okTrace tr=true then some [(T,H)] else none) else some [(T,H)]
 | o::os,tr,T,H=>match o.g with
  | none=>match A.evs T H cl mt o.a with
   | some rs=>bindL rs fun r=>forceR H r fun x h rd wr=>putC T o.dst x fun T'=>evOps draw os (⟨o.a.slots,o.dst,rd,wr,o.after⟩::tr) T' h
   | none=>none
  | some (s,w)=>match T.getD s .junk with
   | .d (.bool b)=>if b=w then (match A.evs T H cl mt o.a with
     | some rs=>bindL rs fun r=>forceR H r fun x h rd wr=>putC T o.dst x fun T'=>evOps draw os (⟨s::o.a.slots,o.dst,rd,wr,o.after⟩::tr) T' h
     | none=>none) else putC T o.dst (.tup []) fun T'=>evOps draw os (⟨[s],o.dst,[],[],o.after⟩::tr) T' H
   | .tup []=>putC T o.dst (.tup []) fun T'=>evOps draw os (⟨[s],o.dst,[],[],o.after⟩::tr) T' H
   | _=>none
abbrev Out:=Exit×List V×List (Option Ob)
def Out.blk (id:Nat):Out→Out
 | (.exit j,T,H)=>if j=id then (.normal,T,H) else (.exit j,T,H)
 | o=>o
variable (fz:Option (Nat×List Nat)) in
def evC:Nat→C→List V→List (Option Ob)→Option (List Out)
 | 0,_,_,_=>none
 | n+1,c,T,H=>match c with
  | .skip=>some [(.normal,T,H)]
  | .ret=>match fz with
   | none=>some [(.ret,T,H)]
   | some (k,sl)=>let ex:=V.namess (sl.map fun i=>T.getD i .junk)
    let l:=((List.range H.length).drop k).filter fun n=>!ex.contains n
    let r:=fzAll (l++(l++l)) (T,H)
    some [(.ret,r.1,r.2)]
  | .exit i=>some [(.exit i,T,H)]
  | .seq a b=>match evC n a T H with
   | some l=>bindL l fun o=>match o.1 with
    | .normal=>evC n b o.2.1 o.2.2
    | _=>some [o]
   | none=>none
  | .cond c a b=>match c.ev T with
   | .d (.bool t)=>if t then evC n a T H else evC n b T H
   | _=>none
  | .block id a=>(evC n a T H).map fun l=>l.map (Out.blk id)
  | .loop a=>match evC n a T H with
   | some l=>bindL l fun o=>match o.1 with
    | .normal=>evC n (.loop a) o.2.1 o.2.2
    | _=>some [o]
   | none=>none
  | .reg draw ops=>(evOps cl mt draw ops [] T H).map fun l=>l.map fun r=>(.normal,r.1,r.2)
  | _=>none
end
section
variable {P:Program} {cl:FuncId→List V→List (Option Ob)→Option R4} {mt:TypeId→String→Option FuncId}
theorem o_j3 (hcl:∀f args H r,cl f args H=some r→∀K,R4.then r K→CallS P f args H K) (hmt:∀t name g,mt t name=some g→MethOK P t name g) {draw:Bool}:∀(os:List O) (tr:List E) (T:List V) (H:List (Option Ob)) (outs:List (List V×List (Option Ob))),evOps cl mt draw os tr T H=some outs→∀K:List V→List (Option Ob)→Prop,(∀o∈outs,K o.1 o.2)→vops P draw K os tr T H
 | [],tr,T,H,outs,h,K,hK=>by
  unfold evOps at h
  unfold vops
  cases draw
  ·simp only [Bool.false_eq_true,if_false] at h ⊢
   cases h;exact hK (T,H) (List.mem_singleton.2 rfl)
  ·simp only [if_true] at h ⊢
   split at h
   ·rename_i ho
    cases h;exact ⟨ho,hK (T,H) (List.mem_singleton.2 rfl)⟩
   ·cases h
 | o::os,tr,T,H,outs,h,K,hK=>by
  have step:∀(tl:R4→List E) (rs:List R4),A.evs T H cl mt o.a=some rs→bindL rs (fun r=>evOps cl mt draw os (tl r) (putT T o.dst r.1) r.2.1)=some outs→A.step P T H (fun x H' rd wr=>vops P draw K os (tl (x,H',rd,wr)) (putT T o.dst x) H') o.a:=fun tl rs hr hb=>by
   refine A.evs_ok hcl hmt o.a rs hr _ fun r hr'=>?_
   obtain ⟨x,hx,hsub⟩:=o_io hb r hr'
   exact o_j3 hcl hmt os _ _ _ x hx K fun o ho=>hK o (hsub o ho)
  unfold evOps at h
  simp only [o_j2,o_ix] at h
  unfold vops
  cases hg:o.g with
  | none =>
   rw [hg] at h
   simp only at h ⊢
   split at h
   ·rename_i rs hr
    exact step (fun r=>⟨o.a.slots,o.dst,r.2.2.1,r.2.2.2,o.after⟩::tr) rs hr h
   ·cases h
  | some sw =>
   obtain ⟨s,w⟩:=sw
   rw [hg] at h
   simp only at h ⊢
   split at h
   ·rename_i b hb
    split at h
    ·rename_i hbw
     split at h
     ·rename_i rs hr
      rw [hb]
      exact ⟨fun _=>step (fun r=>⟨s::o.a.slots,o.dst,r.2.2.1,r.2.2.2,o.after⟩::tr) rs hr h,fun hn=>absurd hbw hn⟩
     ·cases h
    ·rename_i hbw
     rw [hb]
     exact ⟨fun hn=>absurd hn hbw,fun _=>o_j3 hcl hmt os _ _ _ outs h K hK⟩
   ·rename_i hb
    rw [hb]
    exact o_j3 hcl hmt os _ _ _ outs h K hK
   ·cases h
theorem o_j4 (hmix:P.follows .mixedOrders=true) (hcl:∀f args H r,cl f args H=some r→∀K,R4.then r K→CallS P f args H K) (hmt:∀t name g,mt t name=some g→MethOK P t name g) {fz:Option (Nat×List Nat)} {L:Nat}:∀(n:Nat),(∀(c:C) (T:List V) (H:List (Option Ob)) (outs:List Out),evC cl mt fz n c T H=some outs→∀Q:Exit→List V→List (Option Ob)→Prop,(∀o∈outs,Q o.1 o.2.1 o.2.2)→AW P L c Q T H)∧(∀(a:C) (T:List V) (H:List (Option Ob)) (outs:List Out),evC cl mt fz n (.loop a) T H=some outs→∀Q:Exit→List V→List (Option Ob)→Prop,(∀o∈outs,Q o.1 o.2.1 o.2.2)→AWu P L a Q n T H)
 | 0=>⟨fun c T H outs h=>(by cases h),fun a T H outs h=>(by cases h)⟩
 | n+1=>by
  obtain ⟨ih,ihl⟩:=o_j4 hmix hcl hmt (L:=L) n
  have hl:∀(a:C) (T:List V) (H:List (Option Ob)) (outs:List Out),evC cl mt fz (n+1) (.loop a) T H=some outs→∀Q:Exit→List V→List (Option Ob)→Prop,(∀o∈outs,Q o.1 o.2.1 o.2.2)→AWu P L a Q (n+1) T H:=by
   intro a T H outs h Q hQ
   simp only [evC] at h
   cases ha:evC cl mt fz n a T H with
   | none=>rw [ha] at h;cases h
   | some l =>
    rw [ha] at h
    simp only at h
    refine AWu.next (ih a T H l ha _ fun o ho=>?_)
    obtain ⟨x,hx,hsub⟩:=o_io h o ho
    obtain ⟨e1,T1,H1⟩:=o
    cases e1 with
    | normal=>exact ihl a T1 H1 x hx Q fun o ho=>hQ o (hsub o ho)
    | _=>cases hx;exact hQ _ (hsub _ (List.mem_singleton.2 rfl))
  have one:∀{o:Out} {outs:List Out} {Q:Exit→List V→List (Option Ob)→Prop},some [o]=some outs→(∀o∈outs,Q o.1 o.2.1 o.2.2)→Q o.1 o.2.1 o.2.2:=fun h hQ=>by cases h;exact hQ _ (List.mem_singleton.2 rfl)
  refine ⟨fun c T H outs h Q hQ=>?_,hl⟩
  cases c with
  | skip=>exact AW.skip (one h hQ)
  | ret =>
   simp only [evC] at h
   split at h
   ·exact AW.ret (one h hQ)
   ·exact o_ir _ (T,H) (AW.ret (one h hQ))
  | exit i=>exact AW.exit (one h hQ)
  | seq a b =>
   simp only [evC] at h
   refine AW.seq ?_
   cases ha:evC cl mt fz n a T H with
   | none=>rw [ha] at h;cases h
   | some l =>
    rw [ha] at h
    simp only at h
    refine ih a T H l ha _ fun o ho=>?_
    obtain ⟨x,hx,hsub⟩:=o_io h o ho
    obtain ⟨e1,T1,H1⟩:=o
    cases e1 with
    | normal=>exact ih b T1 H1 x hx Q fun o ho=>hQ o (hsub o ho)
    | _=>cases hx;exact hQ _ (hsub _ (List.mem_singleton.2 rfl))
  | cond c a b =>
   simp only [evC] at h
   split at h
   ·rename_i t ht
    refine AW.cond ht (fun hh=>?_) (fun hh=>?_)
    ·subst hh;exact ih a T H outs h Q hQ
    ·subst hh;exact ih b T H outs h Q hQ
   ·cases h
  | block id a =>
   simp only [evC,Option.map_eq_some_iff] at h
   obtain ⟨l,ha,h2⟩:=h
   subst h2
   refine AW.block (ih a T H l ha _ fun o ho=>?_)
   have hq:=hQ _ (List.mem_map.2 ⟨o,ho,rfl⟩)
   obtain ⟨e1,T1,H1⟩:=o
   cases e1 with
   | exit j =>
    simp only [Out.blk] at hq
    simp only [blockQ]
    split at hq
    ·rename_i hj;rw [if_pos hj];exact hq
    ·rename_i hj;rw [if_neg hj];exact hq
   | _=>exact hq
  | loop a=>exact AW.rounds (n+1) (hl a T H outs h Q hQ)
  | reg draw ops =>
   simp only [evC,Option.map_eq_some_iff] at h
   obtain ⟨l,h1,h2⟩:=h
   subst h2
   exact AW.reg hmix (o_j3 hcl hmt ops [] T H l h1 _ fun o ho=>hQ _ (List.mem_map.2 ⟨o,ho,rfl⟩))
  | _=>cases h
theorem o_j5 (hmix:P.follows .mixedOrders=true) (hcl:∀f args H r,cl f args H=some r→∀K,R4.then r K→CallS P f args H K) (hmt:∀t name g,mt t name=some g→MethOK P t name g) {fz:Option (Nat×List Nat)} {L n:Nat} {c:C} {T:List V} {H:List (Option Ob)} {outs:List Out} (h:evC cl mt fz n c T H=some outs) {Q:Exit→List V→List (Option Ob)→Prop} (hQ:∀o∈outs,Q o.1 o.2.1 o.2.2):AW P L c Q T H :=
 (o_j4 hmix hcl hmt n).1 c T H outs h Q hQ
end

def posOf (θ:List Nat) (n:Nat):Nat:=match θ with
 | []=>0
 | m::r=>if m=n then 0 else posOf r n+1
theorem o_j6 {n:Nat}:∀{θ:List Nat},n∈θ→posOf θ n<θ.length∧θ.getD (posOf θ n) 0=n
 | m::r,h=>by
  unfold posOf
  by_cases e:m=n
  ·rw [if_pos e];exact ⟨by simp,by simpa using e⟩
  ·rw [if_neg e]
   obtain ⟨h1,h2⟩:=o_j6 (θ:=r) (n:=n) (by
    rcases List.mem_cons.1 h with h | h
    ·exact absurd h.symm e
    ·exact h)
   exact ⟨by simp;omega,by simpa using h2⟩
def inNames (θ:List Nat) (l:List Nat):Bool:=l.all fun n=>θ.contains n
theorem o_j7 {θ l:List Nat} (h:inNames θ l=true):∀n∈l,n∈θ:=fun n hn=>by
 have:=List.all_eq_true.1 h n hn
 simpa using this
mutual
theorem V.ren_back {θ:List Nat} {ρ:Nat→Nat} (hρ:∀n∈θ,ρ (posOf θ n)=n):∀(x:V),(∀n∈x.names,n∈θ)→(x.ren (posOf θ)).ren ρ=x
 | .d x,_=>rfl
 | .agg l,h=>by simp only [V.ren];rw [V.rens_back hρ l h]
 | .tup l,h=>by simp only [V.ren];rw [V.rens_back hρ l h]
 | .p n off,h=>by simp only [V.ren];rw [hρ n (h n (by simp [V.names]))]
 | .row n off len,h=>by simp only [V.ren];rw [hρ n (h n (by simp [V.names]))]
 | .own n s len,h=>by simp only [V.ren];rw [hρ n (h n (by simp [V.names]))]
 | .mp n,h=>by simp only [V.ren];rw [hρ n (h n (by simp [V.names]))]
 | .ch n,h=>by simp only [V.ren];rw [hρ n (h n (by simp [V.names]))]
 | .fn f l,h=>by simp only [V.ren];rw [V.rens_back hρ l h]
 | .fb f l,h=>by simp only [V.ren];rw [V.rens_back hρ l h]
 | .junk,_=>rfl
theorem V.rens_back {θ:List Nat} {ρ:Nat→Nat} (hρ:∀n∈θ,ρ (posOf θ n)=n):∀(l:List V),(∀n∈V.namess l,n∈θ)→V.rens ρ (V.rens (posOf θ) l)=l
 | [],_=>rfl
 | x::l,h=>by
  simp only [V.rens]
  rw [V.ren_back hρ x fun n hn=>h n (by simp [V.namess,hn]),V.rens_back hρ l fun n hn=>h n (by simp [V.namess,hn])]
end
mutual
theorem V.low_pos {θ:List Nat}:∀(x:V),(∀n∈x.names,n∈θ)→(x.ren (posOf θ)).low θ.length=true
 | .d x,_=>rfl
 | .agg l,h=>by simp only [V.ren,V.low];exact V.lowl_pos l h
 | .tup l,h=>by simp only [V.ren,V.low];exact V.lowl_pos l h
 | .p n off,h=>by simp only [V.ren,V.low,decide_eq_true_eq];exact (o_j6 (h n (by simp [V.names]))).1
 | .row n off len,h=>by simp only [V.ren,V.low,decide_eq_true_eq];exact (o_j6 (h n (by simp [V.names]))).1
 | .own n s len,h=>by simp only [V.ren,V.low,decide_eq_true_eq];exact (o_j6 (h n (by simp [V.names]))).1
 | .mp n,h=>by simp only [V.ren,V.low,decide_eq_true_eq];exact (o_j6 (h n (by simp [V.names]))).1
 | .ch n,h=>by simp only [V.ren,V.low,decide_eq_true_eq];exact (o_j6 (h n (by simp [V.names]))).1
 | .fn f l,h=>by simp only [V.ren,V.low];exact V.lowl_pos l h
 | .fb f l,h=>by simp only [V.ren,V.low];exact V.lowl_pos l h
 | .junk,_=>rfl
theorem V.lowl_pos {θ:List Nat}:∀(l:List V),(∀n∈V.namess l,n∈θ)→V.lowl θ.length (V.rens (posOf θ) l)=true
 | [],_=>rfl
 | x::l,h=>by
  simp only [V.rens,V.lowl,Bool.and_eq_true]
  exact ⟨V.low_pos x fun n hn=>h n (by simp [V.namess,hn]),V.lowl_pos l fun n hn=>h n (by simp [V.namess,hn])⟩
end
def reachN (H:List (Option Ob)):Nat→List Nat→List Nat→List Nat
 | 0,_,seen=>seen
 | _+1,[],seen=>seen
 | k+1,n::r,seen=>if seen.contains n then reachN H k r seen else match H.getD n none with
  | some ob=>reachN H k (V.namess ob.c++r) (seen++[n])
  | none=>reachN H k r (seen++[n])
def nodupB:List Nat→Bool
 | []=>true
 | n::l=>!l.contains n&&nodupB l
theorem o_j8:∀{l:List Nat},nodupB l=true→l.Nodup
 | [],_=>by simp
 | n::l,h=>by
  simp only [nodupB,Bool.and_eq_true,Bool.not_eq_true',List.contains_eq_mem,decide_eq_false_iff_not] at h
  exact List.nodup_cons.2 ⟨h.1,o_j8 h.2⟩
def obsOf (H:List (Option Ob)) (θ':List Nat):List Nat→Option (List Ob)
 | []=>some []
 | n::θ=>match H.getD n none,obsOf H θ' θ with
  | some ob,some l=>if inNames θ' (V.namess ob.c)=true then some (⟨ob.T,V.rens (posOf θ') ob.c⟩::l) else none
  | _,_=>none
theorem o_j9 {H:List (Option Ob)} {θ':List Nat} {ρ:Nat→Nat} (hρ:∀n∈θ',ρ (posOf θ' n)=n):∀{θ:List Nat} {l:List Ob},obsOf H θ' θ=some l→obsAt θ'.length H ρ θ l∧l.length=θ.length
 | [],l,h=>by cases h;exact ⟨trivial,rfl⟩
 | n::θ,l,h=>by
  simp only [obsOf] at h
  split at h
  ·rename_i ob l' h1 h2
   split at h
   ·rename_i h3
    cases h
    obtain ⟨h4,h5⟩:=o_j9 hρ h2
    refine ⟨⟨⟨V.lowl_pos _ (o_j7 h3),?_⟩,h4⟩,by simp [h5]⟩
    rw [V.rens_back hρ _ (o_j7 h3)];exact h1
   ·cases h
  ·cases h
def obsEnd (H:List (Option Ob)) (θ':List Nat) (k:Nat):List Nat→Option (List Ob)
 | []=>some []
 | n::θ=>match obsEnd H θ' k θ with
  | some l=>match H.getD n none with
   | some ob=>if inNames θ' (V.namess ob.c)=true then some (⟨ob.T,V.rens (posOf θ') ob.c⟩::l) else none
   | none=>if n<k then some (⟨0,[]⟩::l) else none
  | none=>none
theorem o_ja {H:List (Option Ob)} {θ':List Nat} {k:Nat} {ρ:Nat→Nat} (hρ:∀n∈θ',ρ (posOf θ' n)=n) (dead:List Nat):∀{θ:List Nat} {l:List Ob} (j:Nat),obsEnd H θ' k θ=some l→(∀i,i<θ.length→H.getD (θ.getD i 0) none=none→i+j∈dead)→obsIs H ρ dead j θ l∧l.length=θ.length∧∀ob∈l,V.lowl θ'.length ob.c=true
 | [],l,j,h,hd=>by cases h;exact ⟨trivial,rfl,by simp⟩
 | n::θ,l,j,h,hd=>by
  simp only [obsEnd] at h
  split at h
  ·rename_i l' h2
   obtain ⟨h4,h5,h6⟩:=o_ja hρ dead (j+1) h2 fun i hi hn=>by
    have:=hd (i+1) (by simp;omega) (by simpa using hn)
    rw [show i+(j+1)=i+1+j by omega];exact this
   split at h
   ·rename_i ob h1
    split at h
    ·rename_i h3
     cases h
     refine ⟨⟨.inr ?_,h4⟩,by simp [h5],fun o ho=>?_⟩
     ·show obIs H n _
      rw [V.rens_back hρ _ (o_j7 h3)]
      exact ⟨ob,h1,rfl,Subs.refl _⟩
     ·rcases List.mem_cons.1 ho with rfl | ho
      ·exact V.lowl_pos _ (o_j7 h3)
      ·exact h6 o ho
    ·cases h
   ·rename_i h1
    split at h
    ·cases h
     refine ⟨⟨.inl ?_,h4⟩,by simp [h5],fun o ho=>?_⟩
     ·have:=hd 0 (by simp) (by simpa using h1)
      simpa using this
     ·rcases List.mem_cons.1 ho with rfl | ho
      ·rfl
      ·exact h6 o ho
    ·cases h
  ·cases h

theorem o_jb {H:List (Option Ob)} {θ':List Nat} {k:Nat}:∀{θ:List Nat} {l:List Ob},obsEnd H θ' k θ=some l→∀i,i<θ.length→H.getD (θ.getD i 0) none=none→θ.getD i 0<k
 | [],l,h,i,hi,hn=>absurd hi (by simp)
 | n::θ,l,h,i,hi,hn=>by
  simp only [obsEnd] at h
  split at h
  ·rename_i l' h2
   cases i with
   | succ i=>simpa using o_jb h2 i (by simpa using hi) (by simpa using hn)
   | zero =>
    have hn:H.getD n none=none:=by simpa using hn
    rw [hn] at h
    simp only at h
    split at h
    ·rename_i h3;simpa using h3
    ·cases h
  ·cases h
theorem o_jc {θ:List Nat} (dead:List Nat) (h:θ.Nodup):apartB θ dead=true:=by
 refine List.all_eq_true.2 fun i hi=>List.all_eq_true.2 fun j hj=>?_
 have hi:=List.mem_range.1 hi
 have hj:=List.mem_range.1 hj
 by_cases e:i=j
 ·subst e;simp
 ·have:θ.getD i 0≠θ.getD j 0:=by
   rw [List.getD_eq_getElem?_getD,List.getD_eq_getElem?_getD,List.getElem?_eq_getElem hi,List.getElem?_eq_getElem hj]
   intro he
   exact e ((List.getElem_inj (h₀:=hi) (h₁:=hj) h).1 (by simpa using he))
  have h2:(θ.getD i 0 != θ.getD j 0)=true:=by simpa using this
  rw [h2];simp
def exitB:Exit→Bool
 | .normal | .ret=>true
 | _=>false
def beqNs:List Nat→List Nat→Bool
 | [],[]=>true
 | a::l,b::r=>Nat.beq a b&&beqNs l r
 | _,_=>false
theorem o_jd:∀{a b:List Nat},beqNs a b=true→a=b
 | [],[],_=>rfl
 | a::l,b::r,h=>by
  simp only [beqNs,Bool.and_eq_true] at h
  rw [Nat.eq_of_beq_eq_true h.1,o_jd h.2]
def deadOf (H:List (Option Ob)) (k:Nat):List Nat:=(List.range k).filter fun i=>(H.getD i none).isNone
def outF (rs:List RV) (k:Nat) (o:Out):Option (V×List Ob×List Nat×List Nat):=match outV o.2.1 o.2.2 rs with
 | some x0 =>
  let x:=x0.norm
  let θ:=reachN o.2.2 100000 ((List.range k).flatMap (fun i=>match o.2.2.getD i none with | some ob=>V.namess ob.c | none=>[])++x.names) (List.range k)
  match obsEnd o.2.2 θ k θ with
  | some Hs'=>if exitB o.1&&beqNs (θ.take k) (List.range k)&&nodupB θ&&inNames θ x.names then some (x.ren (posOf θ),Hs',deadOf o.2.2 k,θ) else none
  | none=>none
 | none=>none
theorem o_je {rs:List RV} {k:Nat} {o:Out} {X:V} {Hs':List Ob} {dead θ:List Nat} (h:outF rs k o=some (X,Hs',dead,θ)) :
  k≤Hs'.length∧(∀i∈dead,i<k)∧θ.take k=List.range k∧apartB θ dead=true∧X.low Hs'.length=true∧(∀ob∈Hs',V.lowl Hs'.length ob.c=true)∧retG rs θ X Hs' dead o.1 o.2.1 o.2.2:=by
 obtain ⟨e,T,H⟩:=o
 unfold outF at h
 simp only at h
 split at h
 ·rename_i x0 hx
  generalize hnx:x0.norm=x at h
  generalize hθ:reachN H 100000 ((List.range k).flatMap (fun i=>match H.getD i none with | some ob=>V.namess ob.c | none=>[])++x.names) (List.range k)=θ1 at h
  split at h
  ·rename_i Hs1 hob
   split at h
   ·rename_i hb
    simp only [Bool.and_eq_true] at hb
    obtain ⟨⟨⟨h1,h2⟩,h3⟩,h4⟩:=hb
    cases h
    have hnd:=o_j8 h3
    have htk:=o_jd h2
    have hρ:∀n∈θ,(fun i=>θ.getD i 0) (posOf θ n)=n:=fun n hn=>(o_j6 hn).2
    have hdead:∀i,i<θ.length→H.getD (θ.getD i 0) none=none→i+0∈deadOf H k:=by
     intro i hi hn
     have h5:=o_jb hob i hi hn
     have h6:θ.getD (θ.getD i 0) 0=θ.getD i 0:=by
      have h7:(θ.take k)[θ.getD i 0]?=(List.range k)[θ.getD i 0]?:=by rw [htk]
      rw [List.getElem?_take,if_pos h5,List.getElem?_range h5] at h7
      rw [List.getD_eq_getElem?_getD,h7];rfl
     have h8:θ.getD i 0<θ.length:=by
      have:=congrArg List.length htk
      simp at this
      omega
     have h9:θ.getD i 0=i:=by
      have a1:θ.getD (θ.getD i 0) 0=θ[θ.getD i 0]:=by rw [List.getD_eq_getElem?_getD,List.getElem?_eq_getElem h8];rfl
      have a2:θ.getD i 0=θ[i]:=by rw [List.getD_eq_getElem?_getD,List.getElem?_eq_getElem hi];rfl
      exact (List.getElem_inj (h₀:=h8) (h₁:=hi) hnd).1 (by rw [←a1,h6,a2])
     rw [h9] at hn h5
     exact List.mem_filter.2 ⟨List.mem_range.2 h5,by show (H.getD i none).isNone=true;rw [hn];rfl⟩
    obtain ⟨o1,o2,o3⟩:=o_ja (ρ:=fun i=>θ.getD i 0) hρ (deadOf H k) 0 hob hdead
    have hkl:k≤Hs'.length:=by
     rw [o2]
     have:=congrArg List.length htk
     simp at this
     omega
    refine ⟨hkl,fun i hi=>?_,htk,o_jc _ hnd,?_,?_,?_⟩
    ·exact List.mem_range.1 (List.mem_filter.1 hi).1
    ·rw [o2];exact V.low_pos x (o_j7 h4)
    ·rw [o2];exact o3
    ·have:(∃y,outV T H rs=some y∧Sub1 y ((x.ren (posOf θ)).ren fun i=>θ.getD i 0))∧obsIs H (fun i=>θ.getD i 0) (deadOf H k) 0 θ Hs' :=
      ⟨⟨x0,hx,by rw [V.ren_back hρ x (o_j7 h4),←hnx];exact V.norm_sub x0⟩,o1⟩
     cases e<;>first | exact this | cases h1
   ·cases h
  ·cases h
 ·cases h
def sameR (r s:V×List Ob×List Nat×List Nat):Bool:=V.beq r.1 s.1&&obsB r.2.1 s.2.1&&beqNs r.2.2.1 s.2.2.1&&beqNs r.2.2.2 s.2.2.2
theorem o_jf {r s:V×List Ob×List Nat×List Nat} (h:sameR r s=true):r=s:=by
 simp only [sameR,Bool.and_eq_true] at h
 obtain ⟨⟨⟨h1,h2⟩,h3⟩,h4⟩:=h
 obtain ⟨a,b,c,d⟩:=r
 obtain ⟨a',b',c',d'⟩:=s
 rw [show a=a' from V.beq_ok _ _ h1,show b=b' from o_ip h2,show c=c' from o_jd h3,show d=d' from o_jd h4]
def evF (tbl:FuncId→Option (C×List RV×Nat)) (fz:FuncId→Bool) (cl:FuncId→List V→List (Option Ob)→Option R4) (mt:TypeId→String→Option FuncId) (n:Nat) (f:FuncId) (args:List V) (Hs:List Ob):Option (V×List Ob×List Nat) :=
 match tbl f with
 | some (c,rs,nt)=>match forceQs args fun args0=>forceHs Hs fun Hs0=>evC cl mt (if fz f then some (Hs.length,rs.filterMap fun | .cell n _ _=>some n | _=>none) else none) n c (args0++List.replicate (nt-args0.length) .junk) (Hs0.map some) with
  | some outs=>match bindL outs fun o=>(outF rs Hs.length o).map fun r=>[r] with
   | some (r::l)=>if l.all (sameR r) then some (r.1,r.2.1,r.2.2.1) else none
   | _=>none
  | none=>none
 | none=>none
theorem o_jg {P:Program} {tbl:FuncId→Option (C×List RV×Nat)} {fz:FuncId→Bool} {cl:FuncId→List V→List (Option Ob)→Option R4} {mt:TypeId→String→Option FuncId} {n:Nat} {f:FuncId} {args:List V} {Hs:List Ob} {X:V} {Hs':List Ob} {dead:List Nat}
  (hmix:P.follows .mixedOrders=true) (htbl:∀f c rs nt,tbl f=some (c,rs,nt)→fnOf P f=some (c,rs,nt,false)) (hcl:∀f args H r,cl f args H=some r→∀K,R4.then r K→CallS P f args H K) (hmt:∀t name g,mt t name=some g→MethOK P t name g)
  (h:evF tbl fz cl mt n f args Hs=some (X,Hs',dead)):EqnD P f args Hs X Hs' dead:=by
 unfold evF at h
 simp only [o_iv,o_j0] at h
 split at h
 ·rename_i c rs nt hf
  split at h
  ·rename_i outs hc
   split at h
   ·rename_i r l hb
    split at h
    ·rename_i hall
     obtain ⟨X1,Hs1,dead1,θ⟩:=r
     injection h with h
     injection h with h1 h2
     injection h2 with h2 h3
     simp only at h1 h2 h3
     subst h1;subst h2;subst h3
     have each:∀o∈outs,outF rs Hs.length o=some (X1,Hs1,dead1,θ):=fun o ho=>by
      obtain ⟨x,hx,hsub⟩:=o_io hb o ho
      rw [Option.map_eq_some_iff] at hx
      obtain ⟨r,hr,rfl⟩:=hx
      rw [hr]
      rcases List.mem_cons.1 (hsub r (List.mem_singleton.2 rfl)) with h | h
      ·rw [h]
      ·rw [←o_jf (List.all_eq_true.1 hall r h)]
     cases outs with
     | nil=>cases hb
     | cons o0 outs =>
      obtain ⟨a1,a2,a3,a4,a5,a6,_⟩:=o_je (each o0 (List.mem_cons_self ..))
      exact Eqn.gen θ (htbl _ _ _ _ hf) a1 a2 a3 a4 a5 a6 (o_j5 hmix hcl hmt hc fun o ho=>(o_je (each o ho)).2.2.2.2.2.2)
    ·cases h
   ·cases h
  ·cases h
 ·cases h
def evCl (tbl:FuncId→Option (C×List RV×Nat)) (fz:FuncId→Bool) (orc:FuncId→List V→List (Option Ob)→Option R4) (mt:TypeId→String→Option FuncId) (fuel:Nat):Nat→FuncId→List V→List (Option Ob)→Option R4
 | 0,_,_,_=>none
 | n+1,f,args,H=>match orc f args H with
  | some r=>some r
  | none =>
   let θ:=reachN H 100000 (V.namess args) []
   if inNames θ (V.namess args)&&nodupB θ then
    match obsOf H θ θ with
    | some Hs=>match evF tbl fz (evCl tbl fz orc mt fuel n) mt fuel f (V.rens (posOf θ) args) Hs with
     | some (X,Hs',dead)=>some (X.ren (nameOf θ H.length),killAll (putAll H θ (Hs'.map fun ob=>⟨ob.T,V.rens (nameOf θ H.length) ob.c⟩)) θ dead,[],θ++(List.range (Hs'.length-Hs.length)).map (H.length + ·))
     | none=>none
    | none=>none
   else none
theorem o_jh {θ:List Nat} {L:Nat}:∀n∈θ,nameOf θ L (posOf θ n)=n:=fun n hn=>by
 unfold nameOf
 rw [if_pos (o_j6 hn).1];exact (o_j6 hn).2
theorem o_ji {P:Program} {tbl:FuncId→Option (C×List RV×Nat)} {fz:FuncId→Bool} {orc:FuncId→List V→List (Option Ob)→Option R4} {mt:TypeId→String→Option FuncId} {fuel:Nat}
  (hmix:P.follows .mixedOrders=true) (htbl:∀f c rs nt,tbl f=some (c,rs,nt)→fnOf P f=some (c,rs,nt,false)) (horc:∀f args H r,orc f args H=some r→∀K,R4.then r K→CallS P f args H K) (hmt:∀t name g,mt t name=some g→MethOK P t name g) :
  ∀n f args H r,evCl tbl fz orc mt fuel n f args H=some r→∀K,R4.then r K→CallS P f args H K
 | 0,_,_,_,_,h=>by cases h
 | n+1,f,args,H,r,h=>fun K hK=>by
  unfold evCl at h
  split at h
  ·rename_i r' hr;cases h;exact horc _ _ _ _ hr K hK
  ·simp only at h
   generalize hθ:reachN H 100000 (V.namess args) []=θ at h
   split at h
   ·rename_i hb
    simp only [Bool.and_eq_true] at hb
    split at h
    ·rename_i Hs hHs
     split at h
     ·rename_i X Hs' dead hF
      cases h
      have E:=o_jg hmix htbl (o_ji hmix htbl horc hmt n) hmt hF
      obtain ⟨a1,a2⟩:=o_j9 (ρ:=nameOf θ H.length) o_jh hHs
      refine CallS.gen θ E (o_j8 hb.2) ?_ ?_ ?_ hK
      ·rw [a2];exact a1
      ·rw [a2];exact V.lowl_pos args (o_j7 hb.1)
      ·rw [V.rens_back o_jh args (o_j7 hb.1)];exact Subs.refl _
     ·cases h
    ·cases h
   ·cases h

def orcB (fa fs fc:FuncId) (f:FuncId) (args:List V) (H:List (Option Ob)):Option R4:=match args with
 | [.d .sl0]=>if Nat.beq f fc=true then some (.d (.sl 0 []),H,[],[]) else none
 | [.d (.sl 0 [])]=>if Nat.beq f fc=true then some (.d (.sl 0 []),H,[],[]) else none
 | [.d (.int .u64 x),.d (.int .u64 y),.d (.int .u64 c)] =>
  if 0≤x∧x<18446744073709551616∧0≤y∧y<18446744073709551616∧0≤c∧c≤1 then
   (if Nat.beq f fa=true then some (.tup [.d (.int .u64 ((x+y+c)%18446744073709551616)),.d (.int .u64 ((x+y+c)/18446744073709551616))],H,[],[])
   else if Nat.beq f fs=true then some (.tup [.d (.int .u64 ((x-y-c)%18446744073709551616)),.d (.int .u64 (if x<y+c then 1 else 0))],H,[],[])
   else none)
  else none
 | _=>none
def tblP (P:Program) (f:FuncId):Option (C×List RV×Nat):=match fnOf P f with
 | some (c,rs,nt,false)=>some (c,rs,nt)
 | _=>none
theorem o_jj {P:Program}:∀f c rs nt,tblP P f=some (c,rs,nt)→fnOf P f=some (c,rs,nt,false):=fun f c rs nt h=>by
 unfold tblP at h
 split at h
 ·rename_i c' rs' nt' h1;cases h;exact h1
 ·cases h
def mtL:List (TypeId×String×FuncId)→TypeId→String→Option FuncId
 | [],_,_=>none
 | (t,n,g)::l,t2,n2=>if t=t2 then (if n=n2 then some g else mtL l t2 n2) else mtL l t2 n2
theorem o_jk {P:Program}:∀{l:List (TypeId×String×FuncId)},(∀e∈l,MethOK P e.1 e.2.1 e.2.2)→∀t n g,mtL l t n=some g→MethOK P t n g
 | [],_,t,n,g,h=>by cases h
 | (t1,n1,g1)::l,hl,t,n,g,h=>by
  simp only [mtL] at h
  split at h
  ·split at h
   ·rename_i h1 h2;cases h;subst h1;subst h2;exact hl _ (List.mem_cons_self ..)
   ·exact o_jk (fun e he=>hl e (List.mem_cons_of_mem _ he)) t n g h
  ·exact o_jk (fun e he=>hl e (List.mem_cons_of_mem _ he)) t n g h
theorem Eqn.ev {P:Program} {fz:FuncId→Bool} {ml:List (TypeId×String×FuncId)} {orc:FuncId→List V→List (Option Ob)→Option R4} {fuel n d:Nat} {f:FuncId} {args:List V} {Hs:List Ob} {X:V} {Hs':List Ob} {dead:List Nat}
  (hmix:P.follows .mixedOrders=true) (horc:∀f args H r,orc f args H=some r→∀K,R4.then r K→CallS P f args H K) (hml:∀e∈ml,MethOK P e.1 e.2.1 e.2.2)
  (h:evF (tblP P) fz (evCl (tblP P) fz orc (mtL ml) fuel d) (mtL ml) n f args Hs=some (X,Hs',dead)):EqnD P f args Hs X Hs' dead :=
 o_jg hmix o_jj (o_ji hmix o_jj horc (o_jk hml) d) (o_jk hml) h
end
section
open Go.RowKit
theorem o_jl:∀f args H r,orcB o_8x o_92 o_94 f args H=some r→∀K,R4.then r K→CallS Tryz.prog f args H K:=by
 intro f args H r h K hK
 unfold orcB at h
 have hcl:∀x:V,Sub1 x (.d (.sl 0 []))→f=o_94→K (.d (.sl 0 [])) H [] []→CallS Tryz.prog f [x] H K:=fun x hx hf hK=>by
  subst hf
  exact CallS.pure (o_cx 0 [] rfl (by omega)) (o_6a _) rfl (fun _=>rfl) (fun m vs h=>by obtain ⟨v,r,e,h1,h2⟩:=V.reps_cons'.1 h;exact e▸V.reps_cons.2 ⟨hx m v h1,h2⟩) hK
 split at h
 ·split at h
  ·rename_i hf;cases h;exact hcl _ Sub1.sl0 (Nat.eq_of_beq_eq_true hf) hK
  ·cases h
 ·split at h
  ·rename_i hf;cases h;exact hcl _ (fun _ _ h=>h) (Nat.eq_of_beq_eq_true hf) hK
  ·cases h
 rotate_left
 ·cases h
 rename_i x y c
 split at h
 rotate_left
 ·cases h
 rename_i hb
 obtain ⟨x0,x1,y0,y1,c0,c1⟩:=hb
 obtain ⟨a,rfl⟩:=Int.eq_ofNat_of_zero_le x0
 obtain ⟨b,rfl⟩:=Int.eq_ofNat_of_zero_le y0
 obtain ⟨d,rfl⟩:=Int.eq_ofNat_of_zero_le c0
 split at h
 ·rename_i hf
  have hf:=Nat.eq_of_beq_eq_true hf
  subst hf
  cases h
  refine CallS.pure (o_cz a b d ((a+b+d)%18446744073709551616) ((a+b+d)/18446744073709551616) (by omega) (by omega) (by omega) (by omega) (by omega)) (o_d3 _ _) rfl (fun _=>rfl) (Subs.refl _) ?_
  have e1:(((a+b+d)%18446744073709551616:Nat):Int)=((a:Int)+b+d)%18446744073709551616:=by omega
  have e2:(((a+b+d)/18446744073709551616:Nat):Int)=((a:Int)+b+d)/18446744073709551616:=by omega
  rw [e1,e2];exact hK
 split at h
 ·rename_i hf
  have hf:=Nat.eq_of_beq_eq_true hf
  subst hf
  cases h
  refine CallS.pure (o_d0 a b d ((a+18446744073709551616*(if a<b+d then 1 else 0))-(b+d)) (if a<b+d then 1 else 0) (by omega) (by omega) (by omega) (by split<;>omega) (by split<;>omega)) (o_d3 _ _) rfl (fun _=>rfl) (Subs.refl _) ?_
  have e1:(((a+18446744073709551616*(if a<b+d then 1 else 0))-(b+d):Nat):Int)=((a:Int)-b-d)%18446744073709551616:=by split<;>omega
  have e2:(((if a<b+d then 1 else 0:Nat)):Int)=if (a:Int)<b+d then 1 else 0:=by split<;>split<;>omega
  rw [e1,e2];exact hK
 ·cases h
end
section
open Go.RowKit
def renIB:Go.Shelf.Ren:=⟨fun | 137=>94 | 217=>166 | 266=>269 | n=>n,fun | 9=>9 | 5=>5 | 3=>3 | n=>n,fun n=>n⟩
theorem layIB:Go.Proofs.Lays.n137 Tryz.prog renIB where
 mixed:=by kernel_rfl
 f137:=Tryz.func94.trans (congrArg some (by kernel_rfl))
 f217:=Tryz.func166.trans (congrArg some (by kernel_rfl))
 f266:=Tryz.func269.trans (congrArg some (by kernel_rfl))
 t3:=Tryz.underlying3
 a3:=Tryz.isAgg3
 z3:=Tryz.sizeOf3
 v3:=Tryz.zeroValue3
 t5:=Tryz.underlying5
 a5:=Tryz.isAgg5
 z5:=Tryz.sizeOf5
 v5:=Tryz.zeroValue5
 t9:=Tryz.underlying9
 a9:=Tryz.isAgg9
 z9:=Tryz.sizeOf9
 v9:=Tryz.zeroValue9
def renJn:Go.Shelf.Ren:=⟨fun | 156=>18 | 165=>41 | 166=>42 | 169=>26 | 240=>68 | 241=>69 | 276=>105 | 277=>106 | n=>n,fun | 31=>57 | 9=>9 | 3=>3 | 4=>4 | 0=>0 | 20=>20 | 72=>65 | 76=>93 | 70=>63 | 37=>26 | 75=>92 | 127=>116 | 164=>174 | 5=>5 | 80=>55 | n=>n,fun n=>n⟩
theorem layJn:Go.Proofs.Lays.n156 Tryz.prog renJn where
 mixed:=by kernel_rfl
 f156:=Tryz.func18.trans (congrArg some (by kernel_rfl))
 f165:=Tryz.func41.trans (congrArg some (by kernel_rfl))
 f166:=Tryz.func42.trans (congrArg some (by kernel_rfl))
 f169:=Tryz.func26.trans (congrArg some (by kernel_rfl))
 f240:=Tryz.func68.trans (congrArg some (by kernel_rfl))
 f241:=Tryz.func69.trans (congrArg some (by kernel_rfl))
 f276:=Tryz.func105.trans (congrArg some (by kernel_rfl))
 f277:=Tryz.func106.trans (congrArg some (by kernel_rfl))
 t0:=Tryz.underlying0
 a0:=Tryz.isAgg0
 z0:=Tryz.sizeOf0
 v0:=Tryz.zeroValue0
 t3:=Tryz.underlying3
 a3:=Tryz.isAgg3
 z3:=Tryz.sizeOf3
 v3:=Tryz.zeroValue3
 t4:=Tryz.underlying4
 a4:=Tryz.isAgg4
 z4:=Tryz.sizeOf4
 v4:=Tryz.zeroValue4
 t9:=Tryz.underlying9
 a9:=Tryz.isAgg9
 z9:=Tryz.sizeOf9
 v9:=Tryz.zeroValue9
 t20:=Tryz.underlying20
 a20:=Tryz.isAgg20
 z20:=Tryz.sizeOf20
 v20:=Tryz.zeroValue20
 t31:=Tryz.underlying57
 a31:=Tryz.isAgg57
 z31:=Tryz.sizeOf57
 v31:=Tryz.zeroValue57
 t37:=Tryz.underlying26
 a37:=Tryz.isAgg26
 z37:=Tryz.sizeOf26
 v37:=Tryz.zeroValue26
 t70:=Tryz.underlying63
 a70:=Tryz.isAgg63
 z70:=Tryz.sizeOf63
 v70:=Tryz.zeroValue63
 t72:=Tryz.underlying65
 a72:=Tryz.isAgg65
 z72:=Tryz.sizeOf65
 v72:=Tryz.zeroValue65
 t75:=Tryz.underlying92
 a75:=Tryz.isAgg92
 z75:=Tryz.sizeOf92
 v75:=Tryz.zeroValue92
 t76:=Tryz.underlying93
 a76:=Tryz.isAgg93
 z76:=Tryz.sizeOf93
 v76:=Tryz.zeroValue93
 t127:=Tryz.underlying116
 a127:=Tryz.isAgg116
 z127:=Tryz.sizeOf116
 v127:=Tryz.zeroValue116
 t164:=Tryz.underlying174
 a164:=Tryz.isAgg174
 z164:=Tryz.sizeOf174
 v164:=Tryz.zeroValue174
def renTr:Go.Shelf.Ren:=⟨fun | 160=>93 | 232=>160 | 231=>159 | 227=>161 | 234=>163 | 233=>162 | 236=>165 | 235=>164 | 228=>266 | 271=>268 | 151=>267 | 197=>152 | 120=>334 | 152=>333 | 260=>255 | 137=>94 | 119=>371 | 224=>257 | 225=>256 | 217=>166 | 266=>269 | n=>n,fun | 9=>9 | 4=>4 | 3=>3 | 5=>5 | 117=>248 | 116=>247 | 0=>0 | 124=>251 | 21=>21 | 105=>241 | 46=>96 | 119=>412 | 139=>415 | 138=>414 | n=>n,fun | 3=>4 | 4=>5 | n=>n⟩
theorem layTr:Go.Proofs.Lays.n160 Tryz.prog renTr where
 mixed:=by kernel_rfl
 f119:=Tryz.func371.trans (congrArg some (by kernel_rfl))
 f120:=Tryz.func334.trans (congrArg some (by kernel_rfl))
 f137:=Tryz.func94.trans (congrArg some (by kernel_rfl))
 f151:=Tryz.func267.trans (congrArg some (by kernel_rfl))
 f152:=Tryz.func333.trans (congrArg some (by kernel_rfl))
 f160:=Tryz.func93.trans (congrArg some (by kernel_rfl))
 f197:=Tryz.func152.trans (congrArg some (by kernel_rfl))
 f217:=Tryz.func166.trans (congrArg some (by kernel_rfl))
 f224:=Tryz.func257.trans (congrArg some (by kernel_rfl))
 f225:=Tryz.func256.trans (congrArg some (by kernel_rfl))
 f227:=Tryz.func161.trans (congrArg some (by kernel_rfl))
 f228:=Tryz.func266.trans (congrArg some (by kernel_rfl))
 f231:=Tryz.func159.trans (congrArg some (by kernel_rfl))
 f232:=Tryz.func160.trans (congrArg some (by kernel_rfl))
 f233:=Tryz.func162.trans (congrArg some (by kernel_rfl))
 f234:=Tryz.func163.trans (congrArg some (by kernel_rfl))
 f235:=Tryz.func164.trans (congrArg some (by kernel_rfl))
 f236:=Tryz.func165.trans (congrArg some (by kernel_rfl))
 f260:=Tryz.func255.trans (congrArg some (by kernel_rfl))
 f266:=Tryz.func269.trans (congrArg some (by kernel_rfl))
 f271:=Tryz.func268.trans (congrArg some (by kernel_rfl))
 t0:=Tryz.underlying0
 a0:=Tryz.isAgg0
 z0:=Tryz.sizeOf0
 v0:=Tryz.zeroValue0
 t3:=Tryz.underlying3
 a3:=Tryz.isAgg3
 z3:=Tryz.sizeOf3
 v3:=Tryz.zeroValue3
 t4:=Tryz.underlying4
 a4:=Tryz.isAgg4
 z4:=Tryz.sizeOf4
 v4:=Tryz.zeroValue4
 t5:=Tryz.underlying5
 a5:=Tryz.isAgg5
 z5:=Tryz.sizeOf5
 v5:=Tryz.zeroValue5
 t9:=Tryz.underlying9
 a9:=Tryz.isAgg9
 z9:=Tryz.sizeOf9
 v9:=Tryz.zeroValue9
 t21:=Tryz.underlying21
 a21:=Tryz.isAgg21
 z21:=Tryz.sizeOf21
 v21:=Tryz.zeroValue21
 t46:=Tryz.underlying96
 a46:=Tryz.isAgg96
 z46:=Tryz.sizeOf96
 v46:=Tryz.zeroValue96
 t105:=Tryz.underlying241
 a105:=Tryz.isAgg241
 z105:=Tryz.sizeOf241
 v105:=Tryz.zeroValue241
 t116:=Tryz.underlying247
 a116:=Tryz.isAgg247
 z116:=Tryz.sizeOf247
 t117:=Tryz.underlying248
 a117:=Tryz.isAgg248
 z117:=Tryz.sizeOf248
 v117:=Tryz.zeroValue248
 t119:=Tryz.underlying412
 a119:=Tryz.isAgg412
 z119:=Tryz.sizeOf412
 t124:=Tryz.underlying251
 a124:=Tryz.isAgg251
 z124:=Tryz.sizeOf251
 v124:=Tryz.zeroValue251
 t138:=Tryz.underlying414
 a138:=Tryz.isAgg414
 z138:=Tryz.sizeOf414
 v138:=Tryz.zeroValue414
 t139:=Tryz.underlying415
 a139:=Tryz.isAgg415
 z139:=Tryz.sizeOf415
 v139:=Tryz.zeroValue415
 g3:=by kernel_rfl
 g4:=by kernel_rfl
def renCn:Go.Shelf.Ren:=⟨fun | 138=>84 | 195=>151 | 218=>153 | 143=>85 | 219=>154 | 217=>166 | 225=>256 | 224=>257 | 267=>258 | 266=>269 | 314=>330 | n=>n,fun | 9=>9 | 3=>3 | 4=>4 | 5=>5 | 0=>0 | 46=>96 | 146=>258 | 51=>255 | n=>n,fun | 1=>3 | n=>n⟩
theorem layCn:Go.Proofs.Lays.n138 Tryz.prog renCn where
 mixed:=by kernel_rfl
 f138:=Tryz.func84.trans (congrArg some (by kernel_rfl))
 f143:=Tryz.func85.trans (congrArg some (by kernel_rfl))
 f195:=Tryz.func151.trans (congrArg some (by kernel_rfl))
 f217:=Tryz.func166.trans (congrArg some (by kernel_rfl))
 f218:=Tryz.func153.trans (congrArg some (by kernel_rfl))
 f219:=Tryz.func154.trans (congrArg some (by kernel_rfl))
 f224:=Tryz.func257.trans (congrArg some (by kernel_rfl))
 f225:=Tryz.func256.trans (congrArg some (by kernel_rfl))
 f266:=Tryz.func269.trans (congrArg some (by kernel_rfl))
 f267:=Tryz.func258.trans (congrArg some (by kernel_rfl))
 f314:=Tryz.func330.trans (congrArg some (by kernel_rfl))
 t0:=Tryz.underlying0
 a0:=Tryz.isAgg0
 z0:=Tryz.sizeOf0
 v0:=Tryz.zeroValue0
 t3:=Tryz.underlying3
 a3:=Tryz.isAgg3
 z3:=Tryz.sizeOf3
 v3:=Tryz.zeroValue3
 t4:=Tryz.underlying4
 a4:=Tryz.isAgg4
 z4:=Tryz.sizeOf4
 v4:=Tryz.zeroValue4
 t5:=Tryz.underlying5
 a5:=Tryz.isAgg5
 z5:=Tryz.sizeOf5
 v5:=Tryz.zeroValue5
 t9:=Tryz.underlying9
 a9:=Tryz.isAgg9
 z9:=Tryz.sizeOf9
 v9:=Tryz.zeroValue9
 t46:=Tryz.underlying96
 a46:=Tryz.isAgg96
 z46:=Tryz.sizeOf96
 v46:=Tryz.zeroValue96
 t51:=Tryz.underlying255
 a51:=Tryz.isAgg255
 z51:=Tryz.sizeOf255
 v51:=Tryz.zeroValue255
 t146:=Tryz.underlying258
 a146:=Tryz.isAgg258
 z146:=Tryz.sizeOf258
 v146:=Tryz.zeroValue258
 g1:=by kernel_rfl
def renIx:Go.Shelf.Ren:=⟨fun | 143=>85 | 219=>154 | 217=>166 | 225=>256 | 224=>257 | 267=>258 | 266=>269 | 314=>330 | n=>n,fun | 9=>9 | 3=>3 | 4=>4 | 5=>5 | 46=>96 | 146=>258 | 51=>255 | n=>n,fun | 1=>3 | n=>n⟩
theorem layIx:Go.Proofs.Lays.n143 Tryz.prog renIx where
 mixed:=by kernel_rfl
 f143:=Tryz.func85.trans (congrArg some (by kernel_rfl))
 f217:=Tryz.func166.trans (congrArg some (by kernel_rfl))
 f219:=Tryz.func154.trans (congrArg some (by kernel_rfl))
 f224:=Tryz.func257.trans (congrArg some (by kernel_rfl))
 f225:=Tryz.func256.trans (congrArg some (by kernel_rfl))
 f266:=Tryz.func269.trans (congrArg some (by kernel_rfl))
 f267:=Tryz.func258.trans (congrArg some (by kernel_rfl))
 f314:=Tryz.func330.trans (congrArg some (by kernel_rfl))
 t3:=Tryz.underlying3
 a3:=Tryz.isAgg3
 z3:=Tryz.sizeOf3
 v3:=Tryz.zeroValue3
 t4:=Tryz.underlying4
 a4:=Tryz.isAgg4
 z4:=Tryz.sizeOf4
 v4:=Tryz.zeroValue4
 t5:=Tryz.underlying5
 a5:=Tryz.isAgg5
 z5:=Tryz.sizeOf5
 v5:=Tryz.zeroValue5
 t9:=Tryz.underlying9
 a9:=Tryz.isAgg9
 z9:=Tryz.sizeOf9
 v9:=Tryz.zeroValue9
 t46:=Tryz.underlying96
 a46:=Tryz.isAgg96
 z46:=Tryz.sizeOf96
 v46:=Tryz.zeroValue96
 t51:=Tryz.underlying255
 a51:=Tryz.isAgg255
 z51:=Tryz.sizeOf255
 v51:=Tryz.zeroValue255
 t146:=Tryz.underlying258
 a146:=Tryz.isAgg258
 z146:=Tryz.sizeOf258
 v146:=Tryz.zeroValue258
 g1:=by kernel_rfl
def renAt:Go.Shelf.Ren:=⟨fun | 172=>92 | 244=>158 | 245=>157 | 247=>265 | 279=>261 | 280=>262 | 281=>263 | 282=>264 | 287=>156 | 316=>331 | 171=>16 | 205=>332 | 321=>259 | 322=>260 | 243=>36 | 246=>62 | 283=>96 | 284=>97 | 285=>98 | 286=>99 | 129=>168 | 317=>167 | 318=>169 | 319=>170 | 320=>171 | 337=>270 | 338=>271 | n=>n,fun | 9=>9 | 3=>3 | 75=>92 | 76=>93 | 4=>4 | 5=>5 | 167=>353 | 37=>26 | 0=>0 | 85=>358 | 2=>2 | 168=>355 | 53=>24 | 175=>159 | 46=>96 | 210=>419 | 127=>116 | 145=>456 | 143=>454 | 21=>21 | 171=>163 | 173=>166 | 212=>254 | 51=>255 | 20=>20 | 213=>256 | 232=>422 | 233=>423 | 80=>55 | n=>n,fun | 15=>6 | 16=>7 | 17=>0 | 18=>8 | 19=>9 | n=>n⟩
theorem layAt:Go.Proofs.LaysC.n172 Tryz.prog renAt where
 mixed:=by kernel_rfl
 f129:=Tryz.func168.trans (congrArg some (by kernel_rfl))
 f171:=Tryz.func16.trans (congrArg some (by kernel_rfl))
 f172:=Tryz.func92.trans (congrArg some (by kernel_rfl))
 f205:=Tryz.func332.trans (congrArg some (by kernel_rfl))
 f243:=Tryz.func36.trans (congrArg some (by kernel_rfl))
 f244:=Tryz.func158.trans (congrArg some (by kernel_rfl))
 f245:=Tryz.func157.trans (congrArg some (by kernel_rfl))
 f246:=Tryz.func62.trans (congrArg some (by kernel_rfl))
 f247:=Tryz.func265.trans (congrArg some (by kernel_rfl))
 f279:=Tryz.func261.trans (congrArg some (by kernel_rfl))
 f280:=Tryz.func262.trans (congrArg some (by kernel_rfl))
 f281:=Tryz.func263.trans (congrArg some (by kernel_rfl))
 f282:=Tryz.func264.trans (congrArg some (by kernel_rfl))
 f283:=Tryz.func96.trans (congrArg some (by kernel_rfl))
 f284:=Tryz.func97.trans (congrArg some (by kernel_rfl))
 f285:=Tryz.func98.trans (congrArg some (by kernel_rfl))
 f286:=Tryz.func99.trans (congrArg some (by kernel_rfl))
 f287:=Tryz.func156.trans (congrArg some (by kernel_rfl))
 f316:=Tryz.func331.trans (congrArg some (by kernel_rfl))
 f317:=Tryz.func167.trans (congrArg some (by kernel_rfl))
 f318:=Tryz.func169.trans (congrArg some (by kernel_rfl))
 f319:=Tryz.func170.trans (congrArg some (by kernel_rfl))
 f320:=Tryz.func171.trans (congrArg some (by kernel_rfl))
 f321:=Tryz.func259.trans (congrArg some (by kernel_rfl))
 f322:=Tryz.func260.trans (congrArg some (by kernel_rfl))
 f337:=Tryz.func270.trans (congrArg some (by kernel_rfl))
 f338:=Tryz.func271.trans (congrArg some (by kernel_rfl))
 t0:=Tryz.underlying0
 a0:=Tryz.isAgg0
 z0:=Tryz.sizeOf0
 v0:=Tryz.zeroValue0
 t2:=Tryz.underlying2
 a2:=Tryz.isAgg2
 z2:=Tryz.sizeOf2
 v2:=Tryz.zeroValue2
 t3:=Tryz.underlying3
 a3:=Tryz.isAgg3
 z3:=Tryz.sizeOf3
 v3:=Tryz.zeroValue3
 t4:=Tryz.underlying4
 a4:=Tryz.isAgg4
 z4:=Tryz.sizeOf4
 v4:=Tryz.zeroValue4
 t5:=Tryz.underlying5
 a5:=Tryz.isAgg5
 z5:=Tryz.sizeOf5
 v5:=Tryz.zeroValue5
 t9:=Tryz.underlying9
 a9:=Tryz.isAgg9
 z9:=Tryz.sizeOf9
 v9:=Tryz.zeroValue9
 t20:=Tryz.underlying20
 a20:=Tryz.isAgg20
 z20:=Tryz.sizeOf20
 v20:=Tryz.zeroValue20
 t21:=Tryz.underlying21
 a21:=Tryz.isAgg21
 z21:=Tryz.sizeOf21
 v21:=Tryz.zeroValue21
 t37:=Tryz.underlying26
 a37:=Tryz.isAgg26
 z37:=Tryz.sizeOf26
 v37:=Tryz.zeroValue26
 t46:=Tryz.underlying96
 a46:=Tryz.isAgg96
 z46:=Tryz.sizeOf96
 v46:=Tryz.zeroValue96
 t51:=Tryz.underlying255
 a51:=Tryz.isAgg255
 z51:=Tryz.sizeOf255
 v51:=Tryz.zeroValue255
 t53:=Tryz.underlying24
 a53:=Tryz.isAgg24
 z53:=Tryz.sizeOf24
 v53:=Tryz.zeroValue24
 t75:=Tryz.underlying92
 a75:=Tryz.isAgg92
 z75:=Tryz.sizeOf92
 v75:=Tryz.zeroValue92
 t76:=Tryz.underlying93
 a76:=Tryz.isAgg93
 z76:=Tryz.sizeOf93
 v76:=Tryz.zeroValue93
 t85:=Tryz.underlying358
 a85:=Tryz.isAgg358
 z85:=Tryz.sizeOf358
 v85:=Tryz.zeroValue358
 t127:=Tryz.underlying116
 a127:=Tryz.isAgg116
 z127:=Tryz.sizeOf116
 v127:=Tryz.zeroValue116
 t143:=Tryz.underlying454
 a143:=Tryz.isAgg454
 z143:=Tryz.sizeOf454
 v143:=Tryz.zeroValue454
 t145:=Tryz.underlying456
 a145:=Tryz.isAgg456
 z145:=Tryz.sizeOf456
 v145:=Tryz.zeroValue456
 t167:=Tryz.underlying353
 a167:=Tryz.isAgg353
 z167:=Tryz.sizeOf353
 v167:=Tryz.zeroValue353
 t168:=Tryz.underlying355
 a168:=Tryz.isAgg355
 z168:=Tryz.sizeOf355
 v168:=Tryz.zeroValue355
 t171:=Tryz.underlying163
 a171:=Tryz.isAgg163
 z171:=Tryz.sizeOf163
 v171:=Tryz.zeroValue163
 t173:=Tryz.underlying166
 a173:=Tryz.isAgg166
 z173:=Tryz.sizeOf166
 v173:=Tryz.zeroValue166
 t175:=Tryz.underlying159
 a175:=Tryz.isAgg159
 z175:=Tryz.sizeOf159
 v175:=Tryz.zeroValue159
 t210:=Tryz.underlying419
 a210:=Tryz.isAgg419
 z210:=Tryz.sizeOf419
 v210:=Tryz.zeroValue419
 t212:=Tryz.underlying254
 a212:=Tryz.isAgg254
 z212:=Tryz.sizeOf254
 v212:=Tryz.zeroValue254
 t213:=Tryz.underlying256
 a213:=Tryz.isAgg256
 z213:=Tryz.sizeOf256
 t232:=Tryz.underlying422
 a232:=Tryz.isAgg422
 z232:=Tryz.sizeOf422
 v232:=Tryz.zeroValue422
 t233:=Tryz.underlying423
 a233:=Tryz.isAgg423
 z233:=Tryz.sizeOf423
 v233:=Tryz.zeroValue423
 g15:=by kernel_rfl
 g16:=by kernel_rfl
 g17:=by kernel_rfl
 g18:=by kernel_rfl
 g19:=by kernel_rfl
 t80:=Tryz.underlying55
 a80:=Tryz.isAgg55
 z80:=Tryz.sizeOf55
 v80:=Tryz.zeroValue55
 i0:=by kernel_rfl
 i2:=by kernel_rfl
 i3:=by kernel_rfl
 i4:=by kernel_rfl
 i5:=by kernel_rfl
 i9:=by kernel_rfl
 i20:=by kernel_rfl
 i21:=by kernel_rfl
 i37:=by kernel_rfl
 i46:=by kernel_rfl
 i51:=by kernel_rfl
 i53:=by kernel_rfl
 i75:=by kernel_rfl
 i76:=by kernel_rfl
 i80:=by kernel_rfl
 i85:=by kernel_rfl
 i127:=by kernel_rfl
 i143:=by kernel_rfl
 i145:=by kernel_rfl
 i167:=by kernel_rfl
 i168:=by kernel_rfl
 i171:=by kernel_rfl
 i173:=by kernel_rfl
 i175:=by kernel_rfl
 i210:=by kernel_rfl
 i212:=by kernel_rfl
 i232:=by kernel_rfl
 i233:=by kernel_rfl
 m15:=by kernel_rfl
 m16:=by kernel_rfl
 m17:=by kernel_rfl
 m18:=by kernel_rfl
 m19:=by kernel_rfl
 c0:=by kernel_rfl
 c2:=by kernel_rfl
 c3:=by kernel_rfl
 c4:=by kernel_rfl
 c5:=by kernel_rfl
 c9:=by kernel_rfl
 c20:=by kernel_rfl
 c21:=by kernel_rfl
 c37:=by kernel_rfl
 c46:=by kernel_rfl
 c51:=by kernel_rfl
 c53:=by kernel_rfl
 c75:=by kernel_rfl
 c76:=by kernel_rfl
 c80:=by kernel_rfl
 c85:=by kernel_rfl
 c127:=by kernel_rfl
 c143:=by kernel_rfl
 c145:=by kernel_rfl
 c167:=by kernel_rfl
 c168:=by kernel_rfl
 c171:=by kernel_rfl
 c173:=by kernel_rfl
 c175:=by kernel_rfl
 c210:=by kernel_rfl
 c212:=by kernel_rfl
 c213:=by kernel_rfl
 c232:=by kernel_rfl
 c233:=by kernel_rfl
def renPu:Go.Shelf.Ren:=⟨fun | 14=>91 | 16=>156 | 17=>157 | 19=>259 | 20=>260 | 21=>261 | 22=>262 | 23=>263 | 24=>264 | 25=>331 | 27=>16 | 26=>332 | 28=>36 | 29=>62 | 30=>96 | 31=>97 | 32=>98 | 33=>99 | 35=>168 | 34=>167 | 36=>169 | 37=>170 | 38=>171 | 39=>270 | 40=>271 | n=>n,fun | 9=>9 | 3=>3 | 22=>24 | 24=>92 | 25=>159 | 4=>4 | 34=>353 | 5=>5 | 36=>96 | 37=>26 | 0=>0 | 39=>355 | 21=>21 | 44=>419 | 47=>116 | 50=>456 | 48=>454 | 2=>2 | 52=>163 | 55=>166 | 59=>254 | 60=>255 | 20=>20 | 61=>256 | 65=>422 | 66=>423 | 67=>55 | n=>n,fun | 0=>6 | 1=>7 | 2=>0 | 3=>8 | 4=>9 | n=>n⟩
theorem layPu:Go.Proofs.LaysPu.n14 Tryz.prog renPu where
 mixed:=by kernel_rfl
 f14:=Tryz.func91.trans (congrArg some (by kernel_rfl))
 f16:=Tryz.func156.trans (congrArg some (by kernel_rfl))
 f17:=Tryz.func157.trans (congrArg some (by kernel_rfl))
 f19:=Tryz.func259.trans (congrArg some (by kernel_rfl))
 f20:=Tryz.func260.trans (congrArg some (by kernel_rfl))
 f21:=Tryz.func261.trans (congrArg some (by kernel_rfl))
 f22:=Tryz.func262.trans (congrArg some (by kernel_rfl))
 f23:=Tryz.func263.trans (congrArg some (by kernel_rfl))
 f24:=Tryz.func264.trans (congrArg some (by kernel_rfl))
 f25:=Tryz.func331.trans (congrArg some (by kernel_rfl))
 f26:=Tryz.func332.trans (congrArg some (by kernel_rfl))
 f27:=Tryz.func16.trans (congrArg some (by kernel_rfl))
 f28:=Tryz.func36.trans (congrArg some (by kernel_rfl))
 f29:=Tryz.func62.trans (congrArg some (by kernel_rfl))
 f30:=Tryz.func96.trans (congrArg some (by kernel_rfl))
 f31:=Tryz.func97.trans (congrArg some (by kernel_rfl))
 f32:=Tryz.func98.trans (congrArg some (by kernel_rfl))
 f33:=Tryz.func99.trans (congrArg some (by kernel_rfl))
 f34:=Tryz.func167.trans (congrArg some (by kernel_rfl))
 f35:=Tryz.func168.trans (congrArg some (by kernel_rfl))
 f36:=Tryz.func169.trans (congrArg some (by kernel_rfl))
 f37:=Tryz.func170.trans (congrArg some (by kernel_rfl))
 f38:=Tryz.func171.trans (congrArg some (by kernel_rfl))
 f39:=Tryz.func270.trans (congrArg some (by kernel_rfl))
 f40:=Tryz.func271.trans (congrArg some (by kernel_rfl))
 t0:=Tryz.underlying0
 a0:=Tryz.isAgg0
 z0:=Tryz.sizeOf0
 v0:=Tryz.zeroValue0
 i0:=by kernel_rfl
 t2:=Tryz.underlying2
 a2:=Tryz.isAgg2
 z2:=Tryz.sizeOf2
 v2:=Tryz.zeroValue2
 i2:=by kernel_rfl
 t3:=Tryz.underlying3
 a3:=Tryz.isAgg3
 z3:=Tryz.sizeOf3
 v3:=Tryz.zeroValue3
 i3:=by kernel_rfl
 t4:=Tryz.underlying4
 a4:=Tryz.isAgg4
 z4:=Tryz.sizeOf4
 v4:=Tryz.zeroValue4
 i4:=by kernel_rfl
 t5:=Tryz.underlying5
 a5:=Tryz.isAgg5
 z5:=Tryz.sizeOf5
 v5:=Tryz.zeroValue5
 i5:=by kernel_rfl
 t9:=Tryz.underlying9
 a9:=Tryz.isAgg9
 z9:=Tryz.sizeOf9
 v9:=Tryz.zeroValue9
 i9:=by kernel_rfl
 t20:=Tryz.underlying20
 a20:=Tryz.isAgg20
 z20:=Tryz.sizeOf20
 v20:=Tryz.zeroValue20
 i20:=by kernel_rfl
 t21:=Tryz.underlying21
 a21:=Tryz.isAgg21
 z21:=Tryz.sizeOf21
 v21:=Tryz.zeroValue21
 i21:=by kernel_rfl
 t22:=Tryz.underlying24
 a22:=Tryz.isAgg24
 z22:=Tryz.sizeOf24
 v22:=Tryz.zeroValue24
 i22:=by kernel_rfl
 t24:=Tryz.underlying92
 a24:=Tryz.isAgg92
 z24:=Tryz.sizeOf92
 v24:=Tryz.zeroValue92
 i24:=by kernel_rfl
 t25:=Tryz.underlying159
 a25:=Tryz.isAgg159
 z25:=Tryz.sizeOf159
 v25:=Tryz.zeroValue159
 i25:=by kernel_rfl
 t34:=Tryz.underlying353
 a34:=Tryz.isAgg353
 z34:=Tryz.sizeOf353
 v34:=Tryz.zeroValue353
 i34:=by kernel_rfl
 c34:=by kernel_rfl
 t36:=Tryz.underlying96
 a36:=Tryz.isAgg96
 z36:=Tryz.sizeOf96
 v36:=Tryz.zeroValue96
 i36:=by kernel_rfl
 t37:=Tryz.underlying26
 a37:=Tryz.isAgg26
 z37:=Tryz.sizeOf26
 v37:=Tryz.zeroValue26
 i37:=by kernel_rfl
 t39:=Tryz.underlying355
 a39:=Tryz.isAgg355
 z39:=Tryz.sizeOf355
 v39:=Tryz.zeroValue355
 i39:=by kernel_rfl
 t44:=Tryz.underlying419
 a44:=Tryz.isAgg419
 z44:=Tryz.sizeOf419
 v44:=Tryz.zeroValue419
 i44:=by kernel_rfl
 t47:=Tryz.underlying116
 a47:=Tryz.isAgg116
 z47:=Tryz.sizeOf116
 v47:=Tryz.zeroValue116
 i47:=by kernel_rfl
 t48:=Tryz.underlying454
 a48:=Tryz.isAgg454
 z48:=Tryz.sizeOf454
 v48:=Tryz.zeroValue454
 i48:=by kernel_rfl
 t50:=Tryz.underlying456
 a50:=Tryz.isAgg456
 z50:=Tryz.sizeOf456
 v50:=Tryz.zeroValue456
 i50:=by kernel_rfl
 t52:=Tryz.underlying163
 a52:=Tryz.isAgg163
 z52:=Tryz.sizeOf163
 v52:=Tryz.zeroValue163
 i52:=by kernel_rfl
 t55:=Tryz.underlying166
 a55:=Tryz.isAgg166
 z55:=Tryz.sizeOf166
 v55:=Tryz.zeroValue166
 i55:=by kernel_rfl
 t59:=Tryz.underlying254
 a59:=Tryz.isAgg254
 z59:=Tryz.sizeOf254
 v59:=Tryz.zeroValue254
 i59:=by kernel_rfl
 t60:=Tryz.underlying255
 a60:=Tryz.isAgg255
 z60:=Tryz.sizeOf255
 v60:=Tryz.zeroValue255
 i60:=by kernel_rfl
 t61:=Tryz.underlying256
 a61:=Tryz.isAgg256
 z61:=Tryz.sizeOf256
 t65:=Tryz.underlying422
 a65:=Tryz.isAgg422
 z65:=Tryz.sizeOf422
 v65:=Tryz.zeroValue422
 i65:=by kernel_rfl
 t66:=Tryz.underlying423
 a66:=Tryz.isAgg423
 z66:=Tryz.sizeOf423
 v66:=Tryz.zeroValue423
 i66:=by kernel_rfl
 t67:=Tryz.underlying55
 a67:=Tryz.isAgg55
 z67:=Tryz.sizeOf55
 v67:=Tryz.zeroValue55
 i67:=by kernel_rfl
 g0:=by kernel_rfl
 m0:=by kernel_rfl
 g1:=by kernel_rfl
 m1:=by kernel_rfl
 g2:=by kernel_rfl
 m2:=by kernel_rfl
 g3:=by kernel_rfl
 m3:=by kernel_rfl
 g4:=by kernel_rfl
 m4:=by kernel_rfl
end
section
structure CmdM where
 op:Int
 h:Int
 o:Int
 i:Int
 n:Int
 key:Nat
 nums:List Int
 bytes:List Nat

def CmdM.zero:CmdM:=⟨0,0,0,0,0,0,[],[]⟩
def inR (v:Int):Prop:=-9223372036854775808≤v∧v≤9223372036854775807
structure CmdM.Good (c:CmdM):Prop where
 op:inR c.op
 h:inR c.h
 o:inR c.o
 i:inR c.i
 n:inR c.n
 key:c.key<18446744073709551616
 nums:∀v∈c.nums,inR v
 bytes:∀b∈c.bytes,b<256

def itoaN (v:Int):List Nat:=if v<0 then 45::decN v.natAbs else decN v.natAbs

def valN:List Nat→Nat→Nat
 | [],a=>a
 | c::l,a=>valN l (a*10+(c-48))
theorem o_jm:∀(l r:List Nat) (a:Nat),valN (l++r) a=valN r (valN l a)
 | [],_,_=>rfl
 | c::l,r,a=>by simp only [List.cons_append,valN];exact o_jm l r _
theorem o_jn:∀(w n a:Nat),valN (padN w n) a=a*10^w+n%10^w
 | 0,n,a=>by simp [padN,valN,Nat.mod_one]
 | w+1,n,a=>by
  rw [padN,o_jm,o_jn w]
  simp only [valN]
  have e:n%10^(w+1)=n/10%10^w*10+n%10:=by
   rw [Nat.pow_succ,Nat.mul_comm (10^w) 10,Nat.mod_mul];omega
  rw [e,Nat.pow_succ,Nat.add_mul,Nat.mul_assoc]
  omega
theorem o_jo (n:Nat):valN (decN n) 0=n:=by
 rw [decN,o_jn];simp [Nat.mod_eq_of_lt (o_dj n)]
theorem o_jp:∀(w n:Nat),∀c∈padN w n,48≤c∧c≤57
 | 0,_,c,h=>by simp [padN] at h
 | w+1,n,c,h=>by
  rw [padN,List.mem_append] at h
  rcases h with h | h
  ·exact o_jp w _ c h
  ·simp at h;omega
theorem o_jq (n:Nat):∀c∈decN n,48≤c∧c≤57:=o_jp _ _
theorem o_jr (n:Nat):decN n≠[]:=fun h=>by have:=o_dq n;have:=o_di n;rw [h] at *;simp at *;omega
theorem o_js {a b:Nat} (h:decN a=decN b):a=b:=by rw [←o_jo a,h,o_jo]
theorem o_jt (n:Nat) (c:Nat) (r:List Nat) (h:decN n=c::r):48≤c∧c≤57:=o_jq n c (by rw [h];simp)
theorem o_ju {v w:Int} (h:itoaN v=itoaN w):v=w:=by
 unfold itoaN at h
 split at h<;>split at h
 ·have:=o_js (List.cons.inj h).2;omega
 ·have:=o_jt w.natAbs 45 _ h.symm;omega
 ·have:=o_jt v.natAbs 45 _ h;omega
 ·have:=o_js h;omega
theorem o_jv (v:Int):∀c∈itoaN v,45≤c∧c≤57:=by
 intro c h
 unfold itoaN at h
 split at h
 ·rcases List.mem_cons.1 h with h | h
  ·omega
  ·have:=o_jq _ c h;omega
 ·have:=o_jq _ c h;omega

open Classical in
noncomputable def readI (s:List Nat):Option Int:=if h:∃v,inR v∧itoaN v=s then some h.choose else none
open Classical in
noncomputable def readK (s:List Nat):Option Nat:=if h:∃u,u<18446744073709551616∧decN u=s then some h.choose else none
theorem o_jw {v:Int} (h:inR v):readI (itoaN v)=some v:=by
 have h':∃w,inR w∧itoaN w=itoaN v:=⟨v,h,rfl⟩
 unfold readI
 rw [dif_pos h']
 exact congrArg some (o_ju h'.choose_spec.2)
theorem o_jx {s:List Nat} {v:Int} (h:readI s=some v):inR v∧itoaN v=s:=by
 unfold readI at h
 split at h
 ·rename_i h';cases h;exact h'.choose_spec
 ·cases h
theorem o_jy {u:Nat} (h:u<18446744073709551616):readK (decN u)=some u:=by
 have h':∃w,w<18446744073709551616∧decN w=decN u:=⟨u,h,rfl⟩
 unfold readK
 rw [dif_pos h']
 exact congrArg some (o_js h'.choose_spec.2)
theorem o_jz {s:List Nat} {u:Nat} (h:readK s=some u):u<18446744073709551616∧decN u=s:=by
 unfold readK at h
 split at h
 ·rename_i h';cases h;exact h'.choose_spec
 ·cases h

def wordT:List (List Nat):=[[],[110,101,119],[97,100,100],[117,112,100,97,116,101],[113,117,101,114,121],[109,101,114,103,101],[97,110,97,108,121,115,101],[101,110,99,111,100,101],[100,101,99,111,100,101],[100,114,111,112]]
def wordN (op:Int):List Nat:=if op<0 then [] else wordT.getD op.toNat []
def opK (s:List Nat):Nat→Nat
 | 0=>0
 | k+1=>if wordT.getD (9-k) []=s then 9-k else opK s k
def opN (s:List Nat):Nat:=opK s 9
theorem o_k0:∀k,k<10→opN (wordT.getD k [])=k:=by decide
theorem o_k1:∀s:List Nat,opN s≠0→wordT.getD (opN s) []=s∧opN s<10:=by
 intro s
 unfold opN
 have key:∀k,k≤9→opK s k≠0→wordT.getD (opK s k) []=s∧opK s k<10:=by
  intro k
  induction k with
  | zero=>intro _ h;exact absurd rfl h
  | succ k ih =>
   intro hk h
   rw [opK] at h ⊢
   split at h
   ·rename_i h1;rw [if_pos h1];exact ⟨h1,by omega⟩
   ·rename_i h1;rw [if_neg h1];exact ih (by omega) h
 exact key 9 (by omega)

inductive FldM where
 | h | o | i | n | key
 deriving DecidableEq
def fldsN:Nat→List FldM
 | 2=>[.h,.i,.n]
 | 3=>[.h,.key,.n]
 | 4=>[.h,.i,.key,.n]
 | 5=>[.h,.o]
 | 6=>[.h,.n,.i]
 | 7=>[.h]
 | 9=>[.h]
 | _=>[]
def getF (c:CmdM):FldM→List Nat
 | .h=>itoaN c.h
 | .o=>itoaN c.o
 | .i=>itoaN c.i
 | .n=>itoaN c.n
 | .key=>decN c.key
noncomputable def setF (c:CmdM) (s:List Nat):FldM→Option CmdM
 | .h=>(readI s).map fun v=>{ c with h:=v }
 | .o=>(readI s).map fun v=>{ c with o:=v }
 | .i=>(readI s).map fun v=>{ c with i:=v }
 | .n=>(readI s).map fun v=>{ c with n:=v }
 | .key=>(readK s).map fun v=>{ c with key:=v }

def dig (n:Nat):Nat:=if n<10 then 48+n else 87+n
def hexN (b:List Nat):List Nat:=b.flatMap fun x=>[dig (x/16),dig (x%16)]
def undig (c:Nat):Option Nat:=if 48≤c∧c≤57 then some (c-48) else if 97≤c∧c≤102 then some (c-87) else none
def unhexN:List Nat→Option (List Nat)
 | []=>some []
 | [_]=>none
 | a::b::r=>match undig a,undig b,unhexN r with
  | some x,some y,some l=>some ((x*16+y)::l)
  | _,_,_=>none
theorem o_k2:∀n,n<16→undig (dig n)=some n:=by decide
theorem o_k3 {c n:Nat} (h:undig c=some n):n<16∧dig n=c:=by
 unfold undig at h
 split at h
 ·cases h;unfold dig;refine ⟨by omega,?_⟩;rw [if_pos (by omega)];omega
 ·split at h
  ·cases h;unfold dig;refine ⟨by omega,?_⟩;rw [if_neg (by omega)];omega
  ·cases h
theorem o_k4:∀b:List Nat,(∀x∈b,x<256)→unhexN (hexN b)=some b
 | [],_=>rfl
 | x::r,h=>by
  have hx:=h x (by simp)
  show unhexN (dig (x/16)::dig (x%16)::hexN r)=_
  rw [unhexN,o_k2 _ (by omega),o_k2 _ (by omega),o_k4 r fun y hy=>h y (by simp [hy])]
  simp;omega
theorem o_k5:∀(s b:List Nat),unhexN s=some b→hexN b=s∧∀x∈b,x<256
 | [],b,h=>by cases h;exact ⟨rfl,by simp⟩
 | [_],b,h=>by cases h
 | a::c::r,b,h=>by
  rw [unhexN] at h
  split at h
  ·rename_i x y l h1 h2 h3
   cases h
   obtain ⟨i1,i2⟩:=o_k5 r l h3
   obtain ⟨j1,j2⟩:=o_k3 h1
   obtain ⟨k1,k2⟩:=o_k3 h2
   refine ⟨?_,?_⟩
   ·show dig ((x*16+y)/16)::dig ((x*16+y)%16)::hexN l=_
    rw [i1,show (x*16+y)/16=x by omega,show (x*16+y)%16=y by omega,j2,k2]
   ·intro z hz
    rcases List.mem_cons.1 hz with rfl | hz
    ·omega
    ·exact i2 z hz
  ·cases h

def textW (c:CmdM):List (List Nat) :=
 if wordN c.op=[] then [] else
 if c.op=1 then (if c.nums=[] then [] else wordN c.op::c.nums.map itoaN) else
 if c.op=8 then [wordN c.op,if c.bytes=[] then [45] else hexN c.bytes] else
 wordN c.op::(fldsN c.op.toNat).map (getF c)
def plainM (c:CmdM):CmdM :=
 if c.op=1 then { CmdM.zero with op:=1,nums:=c.nums } else
 if c.op=8 then { CmdM.zero with op:=8,bytes:=c.bytes } else
 let l:=fldsN c.op.toNat
 ⟨c.op,if .h∈l then c.h else 0,if .o∈l then c.o else 0,if .i∈l then c.i else 0,if .n∈l then c.n else 0,if .key∈l then c.key else 0,[],[]⟩

noncomputable def setsF:CmdM→List FldM→List (List Nat)→Option CmdM
 | c,[],[]=>some c
 | c,f::l,s::r=>(setF c s f).bind fun c'=>setsF c' l r
 | _,_,_=>none
noncomputable def readIs:List (List Nat)→Option (List Int)
 | []=>some []
 | s::r=>match readI s,readIs r with
  | some v,some l=>some (v::l)
  | _,_=>none
def parse8:List (List Nat)→Option CmdM
 | [s]=>if s=[45] then some { CmdM.zero with op:=8 } else if s=[] then none else (unhexN s).map fun b=>{ CmdM.zero with op:=8,bytes:=b }
 | _=>none
noncomputable def parseW:List (List Nat)→Option CmdM
 | []=>none
 | w::rest =>
  if opN w=0 then none else
  if opN w=1 then (if rest=[] then none else (readIs rest).map fun l=>{ CmdM.zero with op:=1,nums:=l }) else
  if opN w=8 then parse8 rest else
  setsF { CmdM.zero with op:=opN w } (fldsN (opN w)) rest

theorem o_k6:∀l:List Int,(∀v∈l,inR v)→readIs (l.map itoaN)=some l
 | [],_=>rfl
 | v::r,h=>by
  rw [List.map_cons,readIs,o_jw (h v (by simp)),o_k6 r fun x hx=>h x (by simp [hx])]
theorem o_k7 {op:Int} (h:wordN op≠[]):∃k:Nat,op=k∧0<k∧k<10∧wordN op=wordT.getD k []:=by
 unfold wordN at h ⊢
 split at h
 ·exact absurd rfl h
 ·rename_i h0
  refine ⟨op.toNat,by omega,?_,?_,if_neg h0⟩
  ·rcases Nat.eq_zero_or_pos op.toNat with e | e
   ·rw [e] at h;exact absurd rfl h
   ·exact e
  ·rcases Nat.lt_or_ge op.toNat 10 with e | e
   ·exact e
   ·rw [List.getD_eq_getElem?_getD,List.getElem?_eq_none (by simp [wordT];omega)] at h;exact absurd rfl h
theorem o_k8 {b:List Nat} (h:b≠[]):hexN b≠[]∧hexN b≠[45]:=by
 cases b with
 | nil=>exact absurd rfl h
 | cons x r=>exact ⟨by simp [hexN],by simp [hexN]⟩
theorem o_k9 {c:CmdM} (g:c.Good) (h:textW c≠[]):parseW (textW c)=some (plainM c):=by
 unfold textW at h ⊢
 by_cases h1:wordN c.op=[]
 ·rw [if_pos h1] at h;exact absurd rfl h
 rw [if_neg h1] at h ⊢
 obtain ⟨k,hk,hk0,hk1,hw⟩:=o_k7 h1
 have ho:opN (wordN c.op)=k:=by rw [hw];exact o_k0 k hk1
 have hkn:c.op.toNat=k:=by omega
 by_cases h2:c.op=1
 ·rw [if_pos h2] at h ⊢
  by_cases h3:c.nums=[]
  ·rw [if_pos h3] at h;exact absurd rfl h
  rw [if_neg h3,parseW,ho,if_neg (by omega),if_pos (by omega),if_neg (by simpa using h3),o_k6 _ g.nums,plainM,if_pos h2]
  rfl
 rw [if_neg h2]
 by_cases h3:c.op=8
 ·rw [if_pos h3,parseW,ho,if_neg (by omega),if_neg (by omega),if_pos (by omega),plainM,if_neg h2,if_pos h3]
  by_cases h4:c.bytes=[]
  ·rw [if_pos h4,parse8,if_pos rfl,h4];rfl
  ·rw [if_neg h4,parse8]
   rw [if_neg (o_k8 h4).2,if_neg (o_k8 h4).1,o_k4 _ g.bytes]
   rfl
 rw [if_neg h3,parseW,ho,if_neg (by omega),if_neg (by omega),if_neg (by omega),plainM,if_neg h2,if_neg h3,hkn,hk]
 have e1:=o_jw g.h
 have e2:=o_jw g.o
 have e3:=o_jw g.i
 have e4:=o_jw g.n
 have e5:=o_jy g.key
 rcases (by omega:k=1∨k=2∨k=3∨k=4∨k=5∨k=6∨k=7∨k=8∨k=9) with rfl | rfl | rfl | rfl | rfl | rfl | rfl | rfl | rfl
 ·exact absurd (by exact_mod_cast hk) h2
 all_goals first
  | (exact absurd (by exact_mod_cast hk) h3;done)
  | simp [fldsN,getF,setsF,setF,e1,e2,e3,e4,e5,CmdM.zero]
end
section
def u8l (l:List Nat):List UInt8:=l.map UInt8.ofNat
theorem o_ka (l:List Nat):(bst l).data.toList=u8l l:=rfl
theorem o_kb (a b:List Nat):u8l (a++b)=u8l a++u8l b:=List.map_append ..
theorem o_kc (c:Nat) (h:c<256):(UInt8.ofNat c).toNat=c:=by simp [UInt8.toNat_ofNat'];omega
theorem o_kd (M acc c:Nat) (r:List UInt8) (h:48≤c∧c≤57) (hM:acc*10+(c-48)≤M) (hM2:M≤18446744073709551615):Lib.parseUintM M acc (UInt8.ofNat c::r)=Lib.parseUintM M (acc*10+(c-48)) r:=by
 rw [Lib.parseUintM,o_kc c (by omega),if_pos h,if_neg (by omega),if_neg (by omega)]
theorem o_ke (acc c:Nat) (r:List UInt8) (h:48≤c∧c≤57) (hM:acc*10+(c-48)≤18446744073709551615):Lib.parseUint10 acc (UInt8.ofNat c::r)=Lib.parseUint10 (acc*10+(c-48)) r:=by
 rw [Lib.parseUint10,o_kc c (by omega),if_pos h,if_neg (by omega),if_neg (by omega)]
theorem o_kf:∀(l:List Nat) (a:Nat),a≤valN l a
 | [],a=>Nat.le_refl _
 | c::l,a=>by have:=o_kf l (a*10+(c-48));rw [valN];omega
theorem o_kg (M:Nat) (hM2:M≤18446744073709551615):∀(l:List Nat) (acc:Nat),(∀c∈l,48≤c∧c≤57)→valN l acc≤M→Lib.parseUintM M acc (u8l l) = .ok (valN l acc)
 | [],acc,_,_=>rfl
 | c::l,acc,h,hv=>by
  rw [valN] at hv ⊢
  have h1:=o_kf l (acc*10+(c-48))
  show Lib.parseUintM M acc (UInt8.ofNat c::u8l l)=_
  rw [o_kd M acc c _ (h c (by simp)) (by omega) hM2,o_kg M hM2 l _ (fun x hx=>h x (by simp [hx])) hv]
theorem o_kh:∀(l:List Nat) (acc:Nat),(∀c∈l,48≤c∧c≤57)→valN l acc≤18446744073709551615→Lib.parseUint10 acc (u8l l) = .ok (valN l acc)
 | [],acc,_,_=>rfl
 | c::l,acc,h,hv=>by
  rw [valN] at hv ⊢
  have h1:=o_kf l (acc*10+(c-48))
  show Lib.parseUint10 acc (UInt8.ofNat c::u8l l)=_
  rw [o_ke acc c _ (h c (by simp)) (by omega),o_kh l _ (fun x hx=>h x (by simp [hx])) hv]
theorem o_ki {l:List Nat} (h:l≠[]):u8l l≠[]:=by cases l<;>simp_all [u8l]
theorem o_kj {u:Nat} (h:u<18446744073709551616):Lib.parseUintB 64 (u8l (decN u)) = .ok u:=by
 unfold Lib.parseUintB
 rw [if_neg (o_ki (o_jr u)),o_kg _ (by decide) _ _ (o_jq u) (by rw [o_jo];show u≤2^64-1;omega),o_jo]
theorem o_kk {u:Nat} (h:u<18446744073709551616):Lib.parseMag (u8l (decN u)) = .ok u:=by
 unfold Lib.parseMag
 rw [if_neg (o_ki (o_jr u)),o_kh _ _ (o_jq u) (by rw [o_jo];omega),o_jo]
theorem o_kl {v:Int} (h:inR v):Lib.atoiAll (u8l (itoaN v)) = .ok v:=by
 unfold inR at h
 unfold itoaN
 split
 ·show Lib.atoiAll (UInt8.ofNat 45::u8l (decN v.natAbs))=_
  unfold Lib.atoiAll
  simp only [o_kc 45 (by omega)]
  rw [if_pos (by simp),o_kk (by omega)]
  simp only [not_true_eq_false,false_and,if_false,true_and,if_true]
  rw [if_neg (by omega)]
  congr 1;omega
 ·obtain ⟨c,r,hc⟩:∃c r,decN v.natAbs=c::r:=by
   cases hd:decN v.natAbs with
   | nil=>exact absurd hd (o_jr _)
   | cons c r=>exact ⟨c,r,rfl⟩
  have hcd:=o_jq v.natAbs c (by rw [hc];simp)
  have hm:=o_kk (u:=v.natAbs) (by omega)
  rw [hc] at hm ⊢
  show Lib.atoiAll (UInt8.ofNat c::u8l r)=_
  unfold Lib.atoiAll
  simp only [o_kc c (by omega)]
  rw [if_neg (by omega),show (UInt8.ofNat c::u8l r)=u8l (c::r) from rfl,hm]
  simp only [show ¬c=45 by omega,not_false_eq_true,true_and,false_and,if_false]
  rw [if_neg (by omega)]
  congr 1;omega
theorem o_km:∀{a b:List Nat},(∀c∈a,c<256)→(∀c∈b,c<256)→u8l a=u8l b→a=b
 | [],[],_,_,_=>rfl
 | [],_::_,_,_,h=>by simp [u8l] at h
 | _::_,[],_,_,h=>by simp [u8l] at h
 | x::a,y::b,ha,hb,h=>by
  have h1:UInt8.ofNat x=UInt8.ofNat y:=(List.cons.inj h).1
  have h2:=congrArg UInt8.toNat h1
  rw [o_kc x (ha x (by simp)),o_kc y (hb y (by simp))] at h2
  rw [h2,o_km (fun c hc=>ha c (by simp [hc])) (fun c hc=>hb c (by simp [hc])) (List.cons.inj h).2]
theorem o_kn {s:List Nat} {v:Int} (hv:inR v) (h:Lib.atoiAll (u8l s) = .ok v):readI s=if itoaN v=s then some v else none:=by
 split
 ·rename_i e;rw [←e];exact o_jw hv
 ·rename_i e
  cases hr:readI s with
  | none=>rfl
  | some w =>
   obtain ⟨h1,h2⟩:=o_jx hr
   rw [←h2,o_kl h1] at h
   cases h
   exact absurd h2 e
theorem o_ko {s:List Nat} (h:∀v,Lib.atoiAll (u8l s)≠.ok v):readI s=none:=by
 cases hr:readI s with
 | none=>rfl
 | some w =>
  obtain ⟨h1,h2⟩:=o_jx hr
  exact absurd (by rw [←h2];exact o_kl h1) (h w)
theorem o_kp {s:List Nat} {v:Nat} (hv:v<18446744073709551616) (h:Lib.parseUintB 64 (u8l s) = .ok v):readK s=if decN v=s then some v else none:=by
 split
 ·rename_i e;rw [←e];exact o_jy hv
 ·rename_i e
  cases hr:readK s with
  | none=>rfl
  | some w =>
   obtain ⟨h1,h2⟩:=o_jz hr
   rw [←h2,o_kj h1] at h
   cases h
   exact absurd h2 e
theorem o_kq {s:List Nat} (h:∀v,Lib.parseUintB 64 (u8l s)≠.ok v):readK s=none:=by
 cases hr:readK s with
 | none=>rfl
 | some w =>
  obtain ⟨h1,h2⟩:=o_jz hr
  exact absurd (by rw [←h2];exact o_kj h1) (h w)
theorem o_kr {l:List UInt8} {v:Int} (h:Lib.atoiAll l = .ok v):inR v:=by
 unfold Lib.atoiAll at h
 split at h
 ·cases h
 ·simp only at h
  split at h
  ·cases h
  ·cases h
  ·rename_i u hu
   split at h
   ·cases h
   ·split at h
    ·cases h
    ·have:=Lib.parseMag_lt hu
     cases h
     unfold inR
     split<;>omega
theorem o_ks:∀(l:List UInt8) (M acc u:Nat),acc≤M→Lib.parseUintM M acc l = .ok u→u≤M
 | [],M,acc,u,h0,h=>by simp only [Lib.parseUintM] at h;injection h with h;omega
 | c::r,M,acc,u,h0,h=>by
  simp only [Lib.parseUintM] at h
  split at h
  ·split at h
   ·cases h
   ·split at h
    ·cases h
    ·exact o_ks r M _ u (by omega) h
  ·cases h
theorem o_kt {l:List UInt8} {v:Nat} (h:Lib.parseUintB 64 l = .ok v):v<18446744073709551616:=by
 unfold Lib.parseUintB at h
 split at h
 ·cases h
 ·have:=o_ks _ _ _ _ (by omega) h
  have e:2^64-1=18446744073709551615:=by decide
  omega
end
section
open Go.RowKit

theorem o_ku {P:Program} {f:FuncId} {c:C} {rs:List RV} {nt:Nat} (hf:fnOf P f=some (c,rs,nt,false)) (vs:Array Value) (w:World):(callFunc f vs).run P w = .ok (.enter f vs) w:=by
 unfold fnOf at hf
 split at hf
 ·rename_i fn hfn
  split at hf
  ·rename_i b hb
   simp only [Option.some.injEq,Prod.mk.injEq] at hf
   obtain ⟨h1,h2,h3,h4⟩:=hf
   have h1 : ¬ fn.name = "runtime.NumGoroutine" := by simpa using h4
   simp [callFunc,hfn,h1,hb]
  ·cases hf
 ·cases hf

abbrev memW (W:World):Mem:=⟨fun _=>none,fun b=>b<W.heap.size,W⟩

theorem o_kv {P:Program} {f:FuncId} {args:List V} {c:C} {rs:List RV} {nt:Nat} (hf:fnOf P f=some (c,rs,nt,false)) (E:Eqn P f args [] (.d (.bool true)) []) {W:World} {vs:List Value} (h:V.reps (memW W) args vs) (ht:Tabs (memW W)) :
  Calls P f vs.toArray W (fun e W'=>e = .returned (.bool true)∧Same W W'):=by
 rcases E.run (memW W) vs ⟨fun b h=>h,fun n b h=>(by cases h),ht⟩ h (by simp) (fun n i b h=>by simp at h) (fun _ _=>rfl) with ⟨v,h1,_⟩ | ⟨_,h2⟩
 ·rw [o_ku hf] at h1;cases h1
 ·refine h2.mono ?_
  rintro e w' ⟨v,m',rfl,rfl,hE⟩
  have hv:=hE.rep
  rw [V.rep_d] at hv
  unfold D.rep at hv
  subst hv
  exact ⟨rfl,hE.le.os,hE.le.tape,hE.le.output,hE.le.size,fun k hk _=>hE.le.imm k hk⟩

theorem reps_of {I:Nat→Prop} {w:World} {α:Type} (f:α→D) (g:α→Value) (h:∀a,D.rep I w (f a) (g a)):∀l:List α,D.reps I w (l.map f) (l.map g)
 | []=>by simp
 | a::l=>by
  rw [List.map_cons,List.map_cons,D.reps_cons]
  exact ⟨h a,reps_of f g h l⟩
end
section
open Go.RowKit
theorem o_kw {I:Nat→Prop} {w:World} {α:Type} (f:α→List D) (g:α→List Value) (h:∀a,D.reps I w (f a) (g a)):∀l:List α,D.reps I w (l.flatMap f) (l.map g).flatten
 | []=>by simp
 | a::l=>by
  rw [List.flatMap_cons,List.map_cons,List.flatten_cons]
  exact D.reps_append (h a) (o_kw f g h l)
theorem o_kx {W:World} {v:Value} {s:Nat} {α:Type} {l:List α} (f:α→List D) (g:α→List Value) (hg:∀a,∀u∈g a,u.oneCell'=true) (hr:∀a,D.reps (fun b=>b<W.heap.size) W (f a) (g a)) (h:Cells W v s l.length (l.map g).flatten):V.rep (memW W) (.d (.sl l.length (l.flatMap f))) v:=by
 rw [V.rep_d]
 unfold D.rep
 obtain ⟨h1,p,cap,rfl,h2,h3,h4⟩:=h
 refine ⟨p,cap,rfl,h2,h3,(l.map g).flatten,fun u hu=>?_,o_kw f g hr l,?_⟩
 ·obtain ⟨x,hx,hu⟩:=List.mem_flatten.1 hu
  obtain ⟨a,-,rfl⟩:=List.mem_map.1 hx
  exact hg a u hu
 ·rcases h4 with ⟨rfl,h5,h6⟩ | ⟨b,o,rfl,hb,hc⟩
  ·left
   have:l=[]:=List.eq_nil_of_length_eq_zero h5
   subst this
   exact ⟨h6,rfl⟩
  ·exact .inr ⟨b,o,rfl,.inr hb,hc⟩
end
section
open Go.RowKit
end
section
open Go.RowKit
theorem Eqn.lib {P:Program} {f:FuncId} {args:List V} {X:V} (hlow:X.low 0=true)
  (h:∀(m:Mem) (vs:List Value),m.base→V.reps m args vs→(callFunc f vs.toArray).run P m.w = .ok (.enter f vs.toArray) m.w∧Calls P f vs.toArray m.w fun e w'=>∃v,e = .returned v∧Below m.w.heap.size m.w w' ∧
   ∃I':Nat→Prop,(∀b,m.I b→I' b)∧(∀b,I' b→m.I b∨m.w.heap.size≤b∧b<w'.heap.size)∧X.rep ⟨m.ρ,I',w'⟩ v):Eqn P f args [] X []:=by
 refine ⟨by simp,by simp,hlow,by simp,?_⟩
 intro m vs hb hv _ _ htop
 obtain ⟨h1,h2⟩:=h m vs hb hv
 refine .inr ⟨h1,h2.mono ?_⟩
 rintro e w' ⟨v,rfl,hB,I',i1,i2,hX⟩
 have hI:∀b,m.I b→w'.heap[b]?=m.w.heap[b]?:=fun b hb'=>hB.block b (hb.imm b hb')
 refine ⟨v,⟨m.ρ,I',w'⟩,rfl,rfl,⟨fun b hb'=>?_,fun n b hn=>?_,hb.tabs.mono i1 hI⟩,⟨fun _ _ h=>h,i1,hB.os,hB.tape,hB.output,trivial,hB.size,fun b hlt _=>hB.block b hlt,fun b hlt=>?_,hI,fun b hb'=>(i2 b hb').imp id fun k=>.inl k.1,fun _ _ h=>.inl h⟩,hX,by simp,by simp,fun n _=>htop n (Nat.zero_le _),fun n b _ hn=>?_⟩
 ·rcases i2 b hb' with k | k
  ·exact Nat.lt_of_lt_of_le (hb.imm b k) hB.size
  ·exact k.2
 ·exact Nat.lt_of_lt_of_le (hb.dom n b hn) hB.size
 ·unfold World.shape?;rw [hB.block b hlt]
 ·rw [htop n (Nat.zero_le _)] at hn;cases hn
theorem Eqn.libS {P:Program} {f:FuncId} {args:List V} {X:V} (hlow:X.low 0=true) (R:Value→Prop) (hR:∀v,R v→∀m,X.rep m v)
  (h:∀(m:Mem) (vs:List Value),m.base→V.reps m args vs→(callFunc f vs.toArray).run P m.w = .ok (.enter f vs.toArray) m.w∧Calls P f vs.toArray m.w fun e w'=>∃v,e = .returned v∧R v∧Below m.w.heap.size m.w w'):Eqn P f args [] X [] :=
 Eqn.lib hlow fun m vs hb hv=>by
  obtain ⟨h1,h2⟩:=h m vs hb hv
  exact ⟨h1,h2.mono fun e w' ⟨v,e1,e2,e3⟩=>⟨v,e1,e3,m.I,fun _ h=>h,fun _ h=>.inl h,hR v e2 _⟩⟩
theorem o_ky (s:ByteArray):∀v,v=Value.string s→∀m,(V.d (.str s)).rep m v:=fun v h m=>by rw [V.rep_d];unfold D.rep;exact h
theorem o_kz (k:IntKind) (n:Int):∀v,v=Value.int k n→∀m,(V.d (.int k n)).rep m v:=fun v h m=>by rw [V.rep_d];unfold D.rep;exact h
theorem reps1 {m:Mem} {x:V} {vs:List Value} (h:V.reps m [x] vs):∃v,vs=[v]∧x.rep m v:=by
 obtain ⟨v,r,rfl,h1,h2⟩:=V.reps_cons'.1 h
 simp at h2;subst h2
 exact ⟨v,rfl,h1⟩
theorem reps2 {m:Mem} {x y:V} {vs:List Value} (h:V.reps m [x,y] vs):∃v u,vs=[v,u]∧x.rep m v∧y.rep m u:=by
 obtain ⟨v,r,rfl,h1,h2⟩:=V.reps_cons'.1 h
 obtain ⟨u,rfl,h3⟩:=reps1 h2
 exact ⟨v,u,rfl,h1,h3⟩
theorem reps3 {m:Mem} {x y z:V} {vs:List Value} (h:V.reps m [x,y,z] vs):∃v u t,vs=[v,u,t]∧x.rep m v∧y.rep m u∧z.rep m t:=by
 obtain ⟨v,r,rfl,h1,h2⟩:=V.reps_cons'.1 h
 obtain ⟨u,t,rfl,h3⟩:=reps2 h2
 exact ⟨v,u,t,rfl,h1,h3⟩
theorem repStr {m:Mem} {s:ByteArray} {v:Value} (h:(V.d (.str s)).rep m v):v = .string s:=by rw [V.rep_d] at h;unfold D.rep at h;exact h
theorem repInt {m:Mem} {k:IntKind} {n:Int} {v:Value} (h:(V.d (.int k n)).rep m v):v = .int k n:=by rw [V.rep_d] at h;unfold D.rep at h;exact h
theorem o_l0 (w:World) (e:TypeId) (s:ByteArray):Below w.heap.size w (Lib.bytesWorld w e s):=Lib.bytesWorld_below _ _ _

theorem o_l1 (s:ByteArray) (c:Nat) (hc:c<256):Eqn Tryz.prog o_9p [.d (.str s),.d (.int .u8 c)] [] (.d (.int .i64 (Lib.indexByte s.data.toList (UInt8.ofNat c)))) [] :=
 Eqn.libS rfl _ (o_kz _ _) fun m vs hb hv=>by
  obtain ⟨v,u,rfl,h1,h2⟩:=reps2 hv
  rw [repStr h1,repInt h2]
  exact ⟨o_ku o_9r _ _,(Any.strings_IndexByte layIB s c m.w).mono fun e w' ⟨e1,e2⟩=>⟨_,e1,rfl,e2▸Below.refl _ _⟩⟩
theorem o_l2 (s:ByteArray) (c:Nat) (hc:c<256):Eqn Tryz.prog o_9j [.d (.str s),.d (.str ⟨#[UInt8.ofNat c]⟩)] [] (.d (.int .i64 (Lib.countByte s.data.toList (UInt8.ofNat c)))) [] :=
 Eqn.libS rfl _ (o_kz _ _) fun m vs hb hv=>by
  obtain ⟨v,u,rfl,h1,h2⟩:=reps2 hv
  rw [repStr h1,repStr h2]
  exact ⟨o_ku o_9l _ _,(Any.strings_Count_one layCn s (UInt8.ofNat c) m.w).mono fun e w' ⟨e1,e2⟩=>⟨_,e1,rfl,e2▸Below.refl _ _⟩⟩
theorem o_l3 (s:ByteArray) (c:Nat) (hc:c<256):Eqn Tryz.prog o_9m [.d (.str s),.d (.str ⟨#[UInt8.ofNat c]⟩)] [] (.d (.int .i64 (Lib.indexByte s.data.toList (UInt8.ofNat c)))) [] :=
 Eqn.libS rfl _ (o_kz _ _) fun m vs hb hv=>by
  obtain ⟨v,u,rfl,h1,h2⟩:=reps2 hv
  rw [repStr h1,repStr h2]
  exact ⟨o_ku o_9o _ _,(Any.strings_Index_one layIx s (UInt8.ofNat c) m.w).mono fun e w' ⟨e1,e2⟩=>⟨_,e1,rfl,e2▸Below.refl _ _⟩⟩
theorem extJn:Go.Proofs.Builder.Extra Tryz.prog renJn where
 sizeBuilder:=by kernel_rfl
 liesBuilder:=by kernel_rfl
 t5:=Tryz.underlying5
 a5:=Tryz.isAgg5
 z5:=Tryz.sizeOf5
 v5:=Tryz.zeroValue5
 infoByte:=by kernel_rfl
 cellsByte:=by kernel_rfl
 sizeByte:=by kernel_rfl
 neB5:=by decide
theorem o_l4 {I:Nat→Prop} {w:World}:∀{l:List ByteArray} {vs:List Value},D.reps I w (l.map .str) vs→vs=l.map .string
 | [],vs,h=>by simpa using h
 | x::l,vs,h=>by
  obtain ⟨v,r,rfl,h1,h2⟩:=D.reps_cons'.1 h
  unfold D.rep at h1
  rw [o_l4 h2,h1];rfl
theorem o_l5 (xs:List ByteArray) (sep:ByteArray) (hN:xs.length≤140737488355328) (hlen:(Lib.join (xs.map (·.data.toList)) sep.data.toList).length≤140737488355328) :
  Eqn Tryz.prog o_9s [.d (.sl xs.length (xs.map .str)),.d (.str sep)] [] (.d (.str ⟨(Lib.join (xs.map (·.data.toList)) sep.data.toList).toArray⟩)) [] :=
 Eqn.libS rfl _ (o_ky _) fun m vs hb hv=>by
  obtain ⟨v,u,rfl,h1,h2⟩:=reps2 hv
  rw [repStr h2]
  rw [V.rep_d] at h1
  unfold D.rep at h1
  obtain ⟨p,cap,rfl,h3,h4,us,h5,h6,h7⟩:=h1
  obtain rfl:=o_l4 h6
  refine ⟨o_ku o_9u _ _,?_⟩
  rcases h7 with ⟨rfl,h8⟩ | ⟨b,o,rfl,h8,h9⟩
  ·obtain rfl:xs=[]:=by simpa using h8
   exact (Any.strings_Join_none layJn extJn p 0 sep m.w).mono fun e w' ⟨e1,e2⟩=>⟨_,e1,rfl,e2▸Below.refl _ _⟩
  ·rcases h8 with h8 | h8
   ·obtain rfl:xs=[]:=by simpa using h8
    exact (Any.strings_Join_none layJn extJn _ cap sep m.w).mono fun e w' ⟨e1,e2⟩=>⟨_,e1,rfl,e2▸Below.refl _ _⟩
   ·exact (Any.strings_Join layJn extJn b o cap xs sep m.w (fun j x hx=>h9 j _ (by rw [List.getElem?_map,hx];rfl)) (hb.imm b h8) hN h3 hlen).mono fun e w' ⟨e1,e2⟩=>⟨_,e1,rfl,e2⟩
theorem o_l6 (s cs:ByteArray) (hs:s.size≤9223372036854775807) (hcs:cs.size<4294967281) (ha:∀(j:Nat) b,cs.data.toList[j]?=some b→b.toNat<128) :
  Eqn Tryz.prog o_9y [.d (.str s),.d (.str cs)] [] (.d (.str ⟨(Lib.trimS s.data.toList cs.data.toList).toArray⟩)) [] :=
 Eqn.libS rfl _ (o_ky _) fun m vs hb hv=>by
  obtain ⟨v,u,rfl,h1,h2⟩:=reps2 hv
  rw [repStr h1,repStr h2]
  exact ⟨o_ku o_a0 _ _,(Any.strings_Trim_ascii layTr (Tryz.zeroValue247) (by kernel_rfl) s cs m.w hs hcs ha).mono fun e w' ⟨e1,e2⟩=>⟨_,e1,rfl,e2⟩⟩
theorem o_l7 {m:Mem} (ht:Tabs m) {g:Nat} {e:D} (h:tab g=some [e]):∃ev,m.w.cell? ⟨g,0,none⟩=some ev∧e.rep m.I m.w ev∧ev.oneCell'=true:=by
 have h1:=ht g _ h
 unfold D.rep at h1
 obtain ⟨b,o,h2,h3,vs,h4,h5,h6⟩:=h1
 obtain ⟨v,r,rfl,h7,h8⟩:=D.reps_cons'.1 h5
 simp only [Value.pointer.injEq,Option.some.injEq,Addr.mk.injEq] at h2
 obtain ⟨rfl,h2,_⟩:=h2
 refine ⟨v,?_,h7,h4 v (by simp)⟩
 have:=h6 0 v rfl
 rw [show o+0=0 by omega] at this
 exact this
def errAt (fn s:ByteArray) (e:D):D:=.ptr [.str fn,.str s,e] 0
theorem o_l8 {m:Mem} {w':World} {fn s:ByteArray} {e:D} {ev:Value} {N T:Nat} (hb:m.base) (hB:Below m.w.heap.size m.w w') (he:e.rep m.I m.w ev) (h1:ev.oneCell'=true) (hN:m.w.heap.size≤N) (hc:w'.heap[N]?=some (.cells #[.string fn,.string s,ev] T (0,0))) :
  D.rep (fun b=>m.I b∨b=N) w' (errAt fn s e) (.pointer (some ⟨N,0,none⟩)):=by
 unfold errAt D.rep
 refine ⟨N,0,rfl,.inr rfl,[.string fn,.string s,ev],?_,?_,?_⟩
 ·intro u hu
  simp at hu
  rcases hu with rfl | rfl | rfl
  ·rfl
  ·rfl
  ·exact h1
 ·refine D.reps_cons.2 ⟨by unfold D.rep;rfl,D.reps_cons.2 ⟨by unfold D.rep;rfl,D.reps_cons.2 ⟨D.rep_mono (fun b h=>.inl h) (fun b h=>hB.block b (hb.imm b h)) _ _ he,D.reps_nil.2 rfl⟩⟩⟩
 ·intro i u hu
  unfold World.cell?
  rw [hc]
  match i,hu with
  | 0,hu=>simpa using hu
  | 1,hu=>simpa using hu
  | 2,hu=>simpa using hu
  | i+3,hu=>simp at hu
theorem o_l9 {w:World} {N:Nat} {o:Obj} (h:w.heap[N]?=some o):N<w.heap.size:=(Array.getElem?_eq_some_iff.1 h).1
theorem o_la (s:ByteArray) (hlim:s.size≤281474976710656):∃(v:Int) (E:D),Eqn Tryz.prog o_97 [.d (.str s)] [] (.tup [.d (.int .i64 v),.d E]) [] ∧
  ((E = .nilifc∧Lib.atoiAll s.data.toList = .ok v)∨((∃t d,E = .ifc t d)∧∀w,Lib.atoiAll s.data.toList≠.ok w)):=by
 have err:∀(g:Nat) (e:D) (v:Int),tab g=some [e]→(∃t d,e = .ifc t d) →
   (∀(ev:Value) (w:World),w.cell? ⟨g,0,none⟩=some ev→(ev = .nilIface∨∃te pe,ev = .iface te pe)→Calls Tryz.prog o_97 #[.string s] w fun e' w'=>∃N,e' = .returned (.tuple #[.int .i64 v,.iface (renAt.t 168) (.pointer (some ⟨N,0,none⟩))])∧w.heap.size≤N∧w'.heap[N]?=some (.cells #[.string ⟨#[65,116,111,105]⟩,.string s,ev] (renAt.t 210) (0,0))∧Below w.heap.size w w') →
   Eqn Tryz.prog o_97 [.d (.str s)] [] (.tup [.d (.int .i64 v),.d (.ifc (renAt.t 168) (errAt ⟨#[65,116,111,105]⟩ s e))]) []:=fun g e v hg hife hC =>
  Eqn.lib (by rfl) fun m vs hb hv=>by
   obtain ⟨u,rfl,h1⟩:=reps1 hv
   rw [repStr h1]
   obtain ⟨ev,c1,c2,c3⟩:=o_l7 hb.tabs hg
   have hev:ev = .nilIface∨∃te pe,ev = .iface te pe:=by
    obtain ⟨t,d,rfl⟩:=hife
    unfold D.rep at c2
    obtain ⟨u,rfl,_⟩:=c2
    exact .inr ⟨_,_,rfl⟩
   refine ⟨o_ku o_99 _ _,(hC ev m.w c1 hev).mono ?_⟩
   rintro e' w' ⟨N,rfl,h2,h3,h4⟩
   refine ⟨_,rfl,h4,fun b=>m.I b∨b=N,fun b h=>.inl h,?_,?_⟩
   ·rintro b (h | rfl)
    ·exact .inl h
    ·exact .inr ⟨h2,o_l9 h3⟩
   ·unfold V.rep
    refine ⟨[_,_],rfl,V.reps_cons.2 ⟨by rw [V.rep_d];unfold D.rep;rfl,V.reps_cons.2 ⟨?_,V.reps_nil.2 rfl⟩⟩⟩
    rw [V.rep_d];unfold D.rep
    exact ⟨_,rfl,o_l8 hb h4 c2 c3 h2 h3⟩
 cases h:Lib.atoiAll s.data.toList with
 | ok v =>
  refine ⟨v,.nilifc,Eqn.libS rfl (fun x=>x = .tuple #[.int .i64 v,.nilIface]) (fun x hx m=>?_) fun m vs hb hv=>?_,.inl ⟨rfl,rfl⟩⟩
  ·subst hx
   unfold V.rep
   exact ⟨[_,_],rfl,V.reps_cons.2 ⟨by rw [V.rep_d];unfold D.rep;rfl,V.reps_cons.2 ⟨by rw [V.rep_d];unfold D.rep;rfl,V.reps_nil.2 rfl⟩⟩⟩
  ·obtain ⟨u,rfl,h1⟩:=reps1 hv
   rw [repStr h1]
   refine ⟨o_ku o_99 _ _,(Any.strconv_Atoi_ok layAt s (by omega) v h m.w).mono ?_⟩
   rintro e w' ⟨rfl,hw⟩
   refine ⟨_,rfl,rfl,?_⟩
   rcases hw with rfl | ⟨t,rfl⟩
   ·exact Below.refl _ _
   ·exact o_l0 _ _ _
 | «syntax» => exact ⟨0, _, err (renAt.g 15) _ 0 rfl ⟨_, _, rfl⟩ fun ev w h1 h2 => Any.strconv_Atoi_syntax layAt s hlim h ev w h1 h2, .inr ⟨⟨_, _, rfl⟩, fun w hw => by cases hw⟩⟩
 | range=>exact ⟨_,_,err (renAt.g 16) _ _ rfl ⟨_,_,rfl⟩ fun ev w h1 h2=>Any.strconv_Atoi_range layAt s hlim h ev w h1 h2,.inr ⟨⟨_,_,rfl⟩,fun w hw=>by cases hw⟩⟩
theorem o_lb (s:ByteArray) (hlim:s.size≤281474976710656):∃(v:Nat) (E:D),Eqn Tryz.prog o_9g [.d (.str s),.d (.int .i64 10),.d (.int .i64 64)] [] (.tup [.d (.int .u64 v),.d E]) [] ∧
  ((E = .nilifc∧Lib.parseUintB 64 s.data.toList = .ok v)∨((∃t d,E = .ifc t d)∧∀w,Lib.parseUintB 64 s.data.toList≠.ok w)):=by
 have err:∀(g:Nat) (e:D) (v:Nat),tab g=some [e]→(∃t d,e = .ifc t d) →
   (∀(ev:Value) (w:World),w.cell? ⟨g,0,none⟩=some ev→(ev = .nilIface∨∃te pe,ev = .iface te pe)→Calls Tryz.prog o_9g #[.string s,.int .i64 10,.int .i64 64] w fun e' w'=>∃N,e' = .returned (.tuple #[.int .u64 v,.iface (renPu.t 39) (.pointer (some ⟨N,0,none⟩))])∧w.heap.size≤N∧w'.heap[N]?=some (.cells #[.string ⟨#[80,97,114,115,101,85,105,110,116]⟩,.string s,ev] (renPu.t 44) (0,0))∧Below w.heap.size w w') →
   Eqn Tryz.prog o_9g [.d (.str s),.d (.int .i64 10),.d (.int .i64 64)] [] (.tup [.d (.int .u64 v),.d (.ifc (renPu.t 39) (errAt ⟨#[80,97,114,115,101,85,105,110,116]⟩ s e))]) []:=fun g e v hg hife hC =>
  Eqn.lib (by rfl) fun m vs hb hv=>by
   obtain ⟨u,y,z,rfl,h1,hy,hz⟩:=reps3 hv
   rw [repStr h1,repInt hy,repInt hz]
   obtain ⟨ev,c1,c2,c3⟩:=o_l7 hb.tabs hg
   have hev:ev = .nilIface∨∃te pe,ev = .iface te pe:=by
    obtain ⟨t,d,rfl⟩:=hife
    unfold D.rep at c2
    obtain ⟨u,rfl,_⟩:=c2
    exact .inr ⟨_,_,rfl⟩
   refine ⟨o_ku o_9i _ _,(hC ev m.w c1 hev).mono ?_⟩
   rintro e' w' ⟨N,rfl,h2,h3,h4⟩
   refine ⟨_,rfl,h4,fun b=>m.I b∨b=N,fun b h=>.inl h,?_,?_⟩
   ·rintro b (h | rfl)
    ·exact .inl h
    ·exact .inr ⟨h2,o_l9 h3⟩
   ·unfold V.rep
    refine ⟨[_,_],rfl,V.reps_cons.2 ⟨by rw [V.rep_d];unfold D.rep;rfl,V.reps_cons.2 ⟨?_,V.reps_nil.2 rfl⟩⟩⟩
    rw [V.rep_d];unfold D.rep
    exact ⟨_,rfl,o_l8 hb h4 c2 c3 h2 h3⟩
 cases h:Lib.parseUintB 64 s.data.toList with
 | ok v =>
  refine ⟨v,.nilifc,Eqn.libS rfl (fun x=>x = .tuple #[.int .u64 v,.nilIface]) (fun x hx m=>?_) fun m vs hb hv=>?_,.inl ⟨rfl,rfl⟩⟩
  ·subst hx
   unfold V.rep
   exact ⟨[_,_],rfl,V.reps_cons.2 ⟨by rw [V.rep_d];unfold D.rep;rfl,V.reps_cons.2 ⟨by rw [V.rep_d];unfold D.rep;rfl,V.reps_nil.2 rfl⟩⟩⟩
  ·obtain ⟨u,y,z,rfl,h1,hy,hz⟩:=reps3 hv
   rw [repStr h1,repInt hy,repInt hz]
   refine ⟨o_ku o_9i _ _,(Any.strconv_ParseUint_10_at64_ok layPu s (by omega) v h m.w).mono ?_⟩
   rintro e w' ⟨rfl,hw⟩
   refine ⟨_,rfl,rfl,?_⟩
   rcases hw with rfl | rfl
   ·exact Below.refl _ _
   ·exact o_l0 _ _ _
 | «syntax» => exact ⟨0, _, err (renPu.g 0) _ 0 rfl ⟨_, _, rfl⟩ fun ev w h1 h2 => Any.strconv_ParseUint_10_at64_syntax layPu s hlim h ev w h1 h2, .inr ⟨⟨_, _, rfl⟩, fun w hw => by cases hw⟩⟩
 | range=>exact ⟨18446744073709551615,_,err (renPu.g 1) _ 18446744073709551615 rfl ⟨_,_,rfl⟩ fun ev w h1 h2=>Any.strconv_ParseUint_10_at64_range layPu s hlim h ev w h1 h2,.inr ⟨⟨_,_,rfl⟩,fun w hw=>by cases hw⟩⟩
end
section
open Go.RowKit
def byV (l:List Nat):List V:=l.map fun n:Nat=>.d (.int .u8 n)
def byO (l:List Nat):Ob:=⟨5,byV l⟩
theorem o_lc (off:Nat) (Hs:List Ob) (h0:0<Hs.length) (hc:∀ob∈Hs,V.lowl Hs.length ob.c=true):Eqn Tryz.prog o_87 [.p 0 off] Hs (.p 0 off) Hs:=by
 refine ⟨by simp,by simp,by simpa [V.low] using h0,hc,?_⟩
 intro m vs hb hv ho hinj htop
 obtain ⟨v,rfl,h1⟩:=reps1 hv
 refine .inl ⟨v,?_,h1,rfl⟩
 rw [run_callFunc_extern o_88 (by kernel_rfl) (by kernel_rfl) (by kernel_rfl) (e:=Extern.AbiNoEscape.same) (by kernel_rfl)]
 rw [Lib.run_noEscape]
 rfl
theorem lies0:liesAt Tryz.prog (Program.depth Tryz.prog) 65 1 0 65 1=true:=by kernel_rfl
theorem lies1:liesAt Tryz.prog (Program.depth Tryz.prog) 67 1 1 65 1=true:=by kernel_rfl
theorem cells0:Program.cellsOf Tryz.prog 65=2:=by kernel_rfl
theorem cells1:Program.cellsOf Tryz.prog 67=3:=by kernel_rfl
@[simp] theorem o_ld (θ:Nat→Nat) (l:List D):V.rens θ (l.map .d)=l.map .d:=o_6x θ l
@[simp] theorem o_le (k:Nat) (l:List D):V.lowl k (l.map .d)=true:=o_6y k l
@[simp] theorem o_lf (k:Nat) (l:List Nat):V.lowl k (byV l)=true:=by induction l<;>simp_all [byV,V.lowl,V.low]
@[simp] theorem o_lg (θ:Nat→Nat) (l:List Nat):V.rens θ (byV l)=byV l:=by induction l<;>simp_all [byV]
@[simp] theorem o_lh (l:List Nat):(byV l).length=l.length:=by simp [byV]
theorem o_li (a b:List Nat):byV (a++b)=byV a++byV b:=by simp [byV]
theorem o_lj (l:List Nat) (h:∀c∈l,c<256):bytesV (bst l)=byV l:=by
 unfold bytesV byV
 rw [o_ka,u8l,List.map_map]
 refine List.map_congr_left fun c hc=>?_
 show V.d (.int .u8 ((UInt8.ofNat c).toNat:Int))=_
 rw [o_kc c (h c hc)]
theorem o_lk:∀l:List Nat,intsV (byV l)=some (l.map fun n:Nat=>(n:Int))
 | []=>rfl
 | x::l=>by
  have:=o_lk l
  unfold byV at this ⊢
  rw [List.map_cons,intsV,this]
  rfl
theorem o_ll (l:List Nat):strOf (l.map fun n:Nat=>(n:Int))=bst l:=by
 unfold strOf bst
 rw [List.map_map]
 congr 1
theorem o_lm (l:List Nat) (h:∀c∈l,c<256):byteIs (l.map fun n:Nat=>(n:Int))=true:=by
 unfold byteIs
 rw [List.all_eq_true]
 intro x hx
 obtain ⟨c,hc,rfl⟩:=List.mem_map.1 hx
 have:=h c hc
 simp;omega
set_option maxHeartbeats 4000000 in
theorem ccheckZA:Eqn Tryz.prog o_7l [.p 0 0] [⟨65,[.d .nilp,.d .nilsl]⟩] (.tup []) [⟨65,[.p 0 0,.d .nilsl]⟩]:=by
 refine Eqn.gen [0] o_7n (by simp) (by simp) (by rfl) (by decide) (by simp) (by simp [V.lowl,V.low]) ?_
 refine cc (c':=?z226) ?_ ?_
 case refine_1=>cbv<;>exact rfl
 have hn:=o_lc 0 [⟨65,[.d .nilp,.d .nilsl]⟩] (by simp) (by simp [V.lowl,V.low])
 have l1:=lies0
 have l2:=cells0
 refine A10 (fs l1 l2) ?_;try with_reducible exact tt
 refine CallS.g [0] (hn) (R1 (fs l1 l2) ?_);try with_reducible exact tt
set_option maxHeartbeats 4000000 in
theorem ccheckZB (CH:List D):Eqn Tryz.prog o_7l [.p 0 1] [⟨67,[.ch 1,.d .nilp,.d .nilsl]⟩,⟨1000001,CH.map .d⟩] (.tup []) [⟨67,[.ch 1,.p 0 1,.d .nilsl]⟩,⟨1000001,CH.map .d⟩]:=by
 refine Eqn.gen [0,1] o_7n (by simp) (by simp) (by rfl) (by decide) (by simp) (by simp [V.lowl,V.low,o_6y,o_6x]) ?_
 refine cc (c':=?z227) ?_ ?_
 case refine_1=>cbv<;>exact rfl
 have hn:=o_lc 1 [⟨67,[.ch 1,.d .nilp,.d .nilsl]⟩,⟨1000001,CH.map .d⟩] (by simp) (by simp [V.lowl,V.low,o_6y,o_6x])
 have l1:=lies1
 have l2:=cells1
 refine A10 (fs l1 l2) ?_;try with_reducible exact tt
 refine CallS.g [0,1] (hn) (R1 (fs l1 l2) ?_);try with_reducible exact tt
set_option maxHeartbeats 4000000 in
theorem ccheckA (ln:Nat) (b:List Nat):Eqn Tryz.prog o_7l [.p 0 0] [⟨65,[.p 0 0,.own 1 1 ln]⟩,byO b] (.tup []) [⟨65,[.p 0 0,.own 1 1 ln]⟩,byO b]:=by
 refine Eqn.gen [0,1] o_7n (by simp) (by simp) (by rfl) (by decide) (by simp) (by simp [V.lowl,V.low,byO]) ?_
 refine cc (c':=?z228) ?_ ?_
 case refine_1=>cbv<;>exact rfl
 try simp only [byO]
 refine A00 ?_;try with_reducible exact tt
set_option maxHeartbeats 4000000 in
theorem wbyZA (x:Nat):Eqn Tryz.prog o_7f [.p 0 0,.d (.int .u8 x)] [⟨65,[.d .nilp,.d .nilsl]⟩] (.d .nilifc) [⟨65,[.p 0 0,.own 1 1 1]⟩,byO [x]]:=by
 refine Eqn.gen [0,2] o_7h (by simp) (by simp) (by rfl) (by decide) (by simp) (by simp [V.lowl,V.low,byO]) ?_
 refine cc (c':=?z231) ?_ ?_
 case refine_1=>cbv<;>exact rfl
 try simp only [byO,byV,List.map_cons,List.map_nil]
 have hc:=ccheckZA
 refine A00 ?_;try with_reducible exact tt
 refine CallS.g [0] (hc) (R0 ?_);try with_reducible exact tt
set_option maxHeartbeats 4000000 in
theorem wbyA (b:List Nat) (x:Nat) (hn:b.length≤100000000):EqnD Tryz.prog o_7f [.p 0 0,.d (.int .u8 x)] [⟨65,[.p 0 0,.own 1 1 b.length]⟩,byO b] (.d .nilifc) [⟨65,[.p 0 0,.own 2 1 (b.length+1)]⟩,byO b,byO (b++[x])] [1]:=by
 refine Eqn.gen [0,1,3] o_7h (by simp) (by simp) (by rfl) (by decide) (by simp) (by simp [V.lowl,V.low,byO]) ?_
 refine cc (c':=?z232) ?_ ?_
 case refine_1=>cbv<;>exact rfl
 try simp only [byO]
 have h2:b.length+1≤140737488355328:=by omega
 have hc:=ccheckA b.length b
 have ha:byV (b++[x])=byV b++[.d (.int .u8 x)]:=o_li b [x]
 simp only [byO] at hc
 refine A10 (fs h2 ha) ?_;try with_reducible exact tt
 refine CallS.g [0,1] (hc) (R1 (fs h2 ha) ?_);try with_reducible exact tt
 all_goals (rw [←ha,o_lg];exact Subs.refl _)
set_option maxHeartbeats 4000000 in
theorem bstrA (b:List Nat) (hb:∀c∈b,c<256) (h0:b≠[]) (hn:b.length≤100000000):EqnD Tryz.prog o_7c [.p 0 0] [⟨65,[.p 0 0,.own 1 1 b.length]⟩,byO b] (.d (.str (bst b))) [⟨65,[.p 0 0,.own 1 1 b.length]⟩,byO b] [1]:=by
 refine Eqn.gen [0,1] o_7e (by simp) (by simp) (by rfl) (by decide) (by simp) (by simp [V.lowl,V.low,byO]) ?_
 refine cc (c':=?z234) ?_ ?_
 case refine_1=>cbv<;>exact rfl
 try simp only [byO]
 have h1:0<b.length:=List.length_pos_iff.2 h0
 have h2:¬b=[]:=h0
 have h3:(byV b).take b.length=byV b:=List.take_of_length_le (by simp)
 have h4:=o_lk b
 have h5:=o_lm b hb
 have h6:=o_ll b
 have h7:(b.length:Int)≤9223372036854775807:=by omega
 refine A10 (fs h1 (fs h2 (fs h3 (fs h4 (fs h5 (fs h6 h7)))))) ?_;try with_reducible exact tt
set_option maxHeartbeats 4000000 in
theorem ccheckB (CH:List D) (ln:Nat) (b:List Nat):Eqn Tryz.prog o_7l [.p 0 1] [⟨67,[.ch 1,.p 0 1,.own 2 1 ln]⟩,⟨1000001,CH.map .d⟩,byO b] (.tup []) [⟨67,[.ch 1,.p 0 1,.own 2 1 ln]⟩,⟨1000001,CH.map .d⟩,byO b]:=by
 refine Eqn.gen [0,1,2] o_7n (by simp) (by simp) (by rfl) (by decide) (by simp) (by simp [V.lowl,V.low,byO]) ?_
 refine cc (c':=?z235) ?_ ?_
 case refine_1=>cbv<;>exact rfl
 try simp only [byO]
 refine A00 ?_;try with_reducible exact tt
set_option maxHeartbeats 4000000 in
theorem wstrZB (CH:List D) (l:List Nat) (hl:∀c∈l,c<256) (h0:l≠[]) (hn:l.length≤100000000):Eqn Tryz.prog o_7i [.p 0 1,.d (.str (bst l))] [⟨67,[.ch 1,.d .nilp,.d .nilsl]⟩,⟨1000001,CH.map .d⟩] (.tup [.d (.int .i64 l.length),.d .nilifc]) [⟨67,[.ch 1,.p 0 1,.own 2 1 l.length]⟩,⟨1000001,CH.map .d⟩,byO l]:=by
 refine Eqn.gen [0,1,2] o_7k (by simp) (by simp) (by rfl) (by decide) (by simp) (by simp [V.lowl,V.low,byO]) ?_
 refine cc (c':=?z236) ?_ ?_
 case refine_1=>cbv<;>exact rfl
 try simp only [byO]
 have hb:=o_lj l hl
 have h1:¬l=[]:=h0
 have h2:l.length≤140737488355328:=by omega
 have hc:=ccheckZB CH
 refine A10 (fs hb (fs h1 h2)) ?_;try with_reducible exact tt
 refine CallS.g [0,1] (hc) (R1 (fs hb (fs h1 h2)) ?_);try with_reducible exact tt
set_option maxHeartbeats 4000000 in
theorem wstrB (CH:List D) (b l:List Nat) (hl:∀c∈l,c<256) (hn:b.length+l.length≤100000000):EqnD Tryz.prog o_7i [.p 0 1,.d (.str (bst l))] [⟨67,[.ch 1,.p 0 1,.own 2 1 b.length]⟩,⟨1000001,CH.map .d⟩,byO b] (.tup [.d (.int .i64 l.length),.d .nilifc]) [⟨67,[.ch 1,.p 0 1,.own 3 1 (b.length+l.length)]⟩,⟨1000001,CH.map .d⟩,byO b,byO (b++l)] [2]:=by
 refine Eqn.gen [0,1,2,3] o_7k (by simp) (by simp) (by rfl) (by decide) (by simp) (by simp [V.lowl,V.low,byO]) ?_
 refine cc (c':=?z237) ?_ ?_
 case refine_1=>cbv<;>exact rfl
 try simp only [byO]
 have hb:=o_lj l hl
 have h2:b.length+l.length≤140737488355328:=by omega
 have hc:=ccheckB CH b.length b
 have ha:=o_li b l
 simp only [byO] at hc
 refine A10 (fs hb (fs h2 ha)) ?_;try with_reducible exact tt
 refine CallS.g [0,1,2] (hc) (R1 (fs hb (fs h2 ha)) ?_);try with_reducible exact tt
 all_goals (rw [←ha,o_lg];exact Subs.refl _)
set_option maxHeartbeats 4000000 in
theorem bstrB (CH:List D) (b:List Nat) (hb:∀c∈b,c<256) (h0:b≠[]) (hn:b.length≤100000000):EqnD Tryz.prog o_7c [.p 0 1] [⟨67,[.ch 1,.p 0 1,.own 2 1 b.length]⟩,⟨1000001,CH.map .d⟩,byO b] (.d (.str (bst b))) [⟨67,[.ch 1,.p 0 1,.own 2 1 b.length]⟩,⟨1000001,CH.map .d⟩,byO b] [2]:=by
 refine Eqn.gen [0,1,2] o_7e (by simp) (by simp) (by rfl) (by decide) (by simp) (by simp [V.lowl,V.low,byO]) ?_
 refine cc (c':=?z241) ?_ ?_
 case refine_1=>cbv<;>exact rfl
 try simp only [byO]
 have h1:0<b.length:=List.length_pos_iff.2 h0
 have h2:¬b=[]:=h0
 have h3:(byV b).take b.length=byV b:=List.take_of_length_le (by simp)
 have h4:=o_lk b
 have h5:=o_lm b hb
 have h6:=o_ll b
 have h7:(b.length:Int)≤9223372036854775807:=by omega
 refine A10 (fs h1 (fs h2 (fs h3 (fs h4 (fs h5 (fs h6 h7)))))) ?_;try with_reducible exact tt
end
section
def spltN (c:Nat):List Nat→List (List Nat)
 | []=>[[]]
 | x::r=>if x=c then []::spltN c r else match spltN c r with
  | w::ws=>(x::w)::ws
  | []=>[[x]]
def joinN (c:Nat):List (List Nat)→List Nat
 | []=>[]
 | [w]=>w
 | w::v::r=>w++c::joinN c (v::r)
theorem o_ln (c:Nat) (w:List Nat) (r:List (List Nat)) (h:r≠[]):joinN c (w::r)=w++c::joinN c r:=by
 cases r with
 | nil=>exact absurd rfl h
 | cons v r=>rfl
theorem o_lo (c:Nat):∀l,spltN c l≠[]
 | []=>by simp [spltN]
 | x::r=>by
  rw [spltN]
  split
  ·simp
  ·split<;>simp
theorem o_lp {c:Nat}:∀{l:List Nat},c∉l→spltN c l=[l]
 | [],_=>rfl
 | x::r,h=>by
  simp at h
  rw [spltN,if_neg (fun e=>h.1 e.symm),o_lp h.2]
theorem o_lq {c:Nat} {b:List Nat}:∀{a:List Nat},c∉a→spltN c (a++c::b)=a::spltN c b
 | [],_=>by simp [spltN]
 | x::r,h=>by
  simp at h
  rw [List.cons_append,spltN,if_neg (fun e=>h.1 e.symm),o_lq h.2]
theorem o_lr (c:Nat):∀l:List Nat,(spltN c l).length=l.count c+1
 | []=>rfl
 | x::r=>by
  rw [spltN]
  split
  ·rename_i h;subst h;rw [List.length_cons,o_lr,List.count_cons_self]
  ·rename_i h
   have:=o_lr c r
   rw [List.count_cons_of_ne (by exact h)]
   split
   ·rename_i w ws hw;rw [hw] at this;simpa using this
   ·rename_i hw;exact absurd hw (o_lo c r)
theorem o_ls (c:Nat):∀l,joinN c (spltN c l)=l
 | []=>rfl
 | x::r=>by
  have ih:=o_ls c r
  rw [spltN]
  split
  ·rename_i h;subst h;rw [o_ln _ _ _ (o_lo _ _),ih];rfl
  ·split
   ·rename_i w ws hw
    rw [hw] at ih
    cases ws with
    | nil=>simp only [joinN] at ih ⊢;rw [ih]
    | cons v ws=>simp only [joinN] at ih ⊢;rw [List.cons_append,ih]
   ·rename_i hw;exact absurd hw (o_lo c r)
theorem o_lt (c:Nat):∀ws:List (List Nat),ws≠[]→(∀w∈ws,c∉w)→spltN c (joinN c ws)=ws
 | [],h,_=>absurd rfl h
 | [w],_,h=>o_lp (h w (by simp))
 | w::v::r,_,h=>by
  rw [joinN,o_lq (h w (by simp)),o_lt c (v::r) (by simp) fun x hx=>h x (by simp [hx])]
theorem o_lu {c:Nat}:∀{l w:List Nat},w∈spltN c l→c∉w∧∀x∈w,x∈l
 | [],w,h=>by simp [spltN] at h;subst h;simp
 | y::r,w,h=>by
  rw [spltN] at h
  split at h
  ·rcases List.mem_cons.1 h with rfl | h
   ·simp
   ·obtain ⟨h1,h2⟩:=o_lu h;exact ⟨h1,fun x hx=>by simp [h2 x hx]⟩
  ·rename_i hy
   split at h
   ·rename_i v ws hv
    rcases List.mem_cons.1 h with rfl | h
    ·obtain ⟨h1,h2⟩:=o_lu (show v∈spltN c r by rw [hv];simp)
     refine ⟨by simp [h1];exact fun e=>hy e.symm,?_⟩
     intro x hx
     rcases List.mem_cons.1 hx with rfl | hx
     ·simp
     ·simp [h2 x hx]
    ·obtain ⟨h1,h2⟩:=o_lu (show w∈spltN c r by rw [hv];simp [h]);exact ⟨h1,fun x hx=>by simp [h2 x hx]⟩
   ·rename_i hv;exact absurd hv (o_lo c r)
theorem o_lv (c:Nat):∀ws:List (List Nat),(joinN c ws).length≤(ws.map List.length).sum+ws.length
 | []=>by simp [joinN]
 | [w]=>by simp [joinN]
 | w::v::r=>by
  have:=o_lv c (v::r)
  simp only [joinN,List.length_append,List.length_cons,List.map_cons,List.sum_cons] at this ⊢
  omega

def textM (c:CmdM):List Nat:=joinN 32 (textW c)
noncomputable def parseM (l:List Nat):Option CmdM:=parseW (spltN 32 l)
theorem o_lw (n:Nat) (h:n<16):dig n≠32:=by
 have:∀n,n<16→dig n≠32:=by decide
 exact this n h
theorem o_lx {c:CmdM} (hb:∀b∈c.bytes,b<256):∀w∈textW c,32∉w:=by
 have hword:∀op:Int,32∉wordN op:=by
  intro op h
  rcases (Classical.em (wordN op=[])) with e | e
  ·rw [e] at h;simp at h
  ·obtain ⟨k,_,_,h1,h2⟩:=o_k7 e
   rw [h2] at h
   have:∀k,k<10→32∉wordT.getD k []:=by decide
   exact this k h1 h
 have hI:∀v,32∉itoaN v:=fun v h=>by have:=o_jv v 32 h;omega
 have hK:∀v,32∉decN v:=fun v h=>by have:=o_jq v 32 h;omega
 intro w h
 unfold textW at h
 split at h
 ·simp at h
 split at h
 ·split at h
  ·simp at h
  ·rcases List.mem_cons.1 h with rfl | h
   ·exact hword _
   ·obtain ⟨v,_,rfl⟩:=List.mem_map.1 h;exact hI v
 split at h
 ·simp only [List.mem_cons,List.not_mem_nil,or_false] at h
  rcases h with rfl | rfl
  ·exact hword _
  ·split
   ·simp
   ·intro h
    obtain ⟨x,hx,h⟩:=List.mem_flatMap.1 h
    simp at h
    have:=hb x hx
    rcases h with h | h
    ·exact o_lw _ (by omega) h.symm
    ·exact o_lw _ (by omega) h.symm
 ·rcases List.mem_cons.1 h with rfl | h
  ·exact hword _
  ·obtain ⟨f,_,rfl⟩:=List.mem_map.1 h
   cases f
   ·exact hI _
   ·exact hI _
   ·exact hI _
   ·exact hI _
   ·exact hK _
theorem o_ly {c:CmdM} (g:c.Good):parseM (textM c)=if textW c=[] then none else some (plainM c):=by
 unfold parseM textM
 split
 ·rename_i h
  rw [h]
  simp [joinN,spltN,parseW]
  decide
 ·rename_i h
  rw [o_lt _ _ h (o_lx g.bytes),o_k9 g h]
theorem o_lz (c:CmdM):textM c=[]↔textW c=[]:=by
 constructor
 ·intro h
  unfold textM at h
  cases hw:textW c with
  | nil=>rfl
  | cons w r =>
   exfalso
   rw [hw] at h
   have hne:w≠[]:=by
    unfold textW at hw
    split at hw
    ·cases hw
    rename_i h1
    split at hw
    ·split at hw
     ·cases hw
     ·cases hw;exact h1
    split at hw
    ·cases hw;exact h1
    ·cases hw;exact h1
   cases r with
   | nil=>exact hne h
   | cons v r=>simp only [joinN,List.append_eq_nil_iff] at h;exact hne h.1
 ·intro h;unfold textM;rw [h];rfl
end
section
theorem o_m0 (c:Nat) (hc:c<256):∀(l:List Nat),(∀x∈l,x<256)→(c∉l∧Lib.indexByte (u8l l) (UInt8.ofNat c) = -1)∨∃a b,l=a++c::b∧c∉a∧Lib.indexByte (u8l l) (UInt8.ofNat c)=(a.length:Int)
 | [],_=>.inl ⟨by simp,rfl⟩
 | x::l,h=>by
  have hx:=h x (by simp)
  by_cases e:x=c
  ·subst e
   refine .inr ⟨[],l,rfl,by simp,?_⟩
   show Lib.indexByte (UInt8.ofNat x::u8l l) (UInt8.ofNat x)=0
   unfold Lib.indexByte
   simp
  ·have he:¬(UInt8.ofNat x=UInt8.ofNat c):=fun h'=>e (by have:=congrArg UInt8.toNat h';rwa [o_kc x hx,o_kc c hc] at this)
   rcases o_m0 c hc l fun y hy=>h y (by simp [hy]) with ⟨h1,h2⟩ | ⟨a,b,h1,h2,h3⟩
   ·refine .inl ⟨by simp [h1];exact fun h'=>e h'.symm,?_⟩
    show Lib.indexByte (UInt8.ofNat x::u8l l) (UInt8.ofNat c) = -1
    unfold Lib.indexByte
    simp [he,h2]
   ·refine .inr ⟨x::a,b,by rw [h1];rfl,by simp [h2];exact fun h'=>e h'.symm,?_⟩
    show Lib.indexByte (UInt8.ofNat x::u8l l) (UInt8.ofNat c)=_
    unfold Lib.indexByte
    simp [he,h3]
theorem o_m1 (c:Nat) (hc:c<256):∀(l:List Nat),(∀x∈l,x<256)→Lib.countByte (u8l l) (UInt8.ofNat c)=l.count c
 | [],_=>rfl
 | x::l,h=>by
  have ih:=o_m1 c hc l fun y hy=>h y (by simp [hy])
  have hx:=h x (by simp)
  unfold Lib.countByte at ih ⊢
  show List.count (UInt8.ofNat c) (UInt8.ofNat x::u8l l)=_
  by_cases e:x=c
  ·subst e;rw [List.count_cons_self,List.count_cons_self,ih]
  ·have he:¬(UInt8.ofNat x=UInt8.ofNat c):=fun h'=>e (by have:=congrArg UInt8.toNat h';rwa [o_kc x hx,o_kc c hc] at this)
   rw [List.count_cons_of_ne he,List.count_cons_of_ne e,ih]
theorem o_m2 (l:List Nat) (a b:Nat):(bst l).extract a b=bst ((l.drop a).take (b-a)):=by
 apply ByteArray.ext
 rw [ByteArray.data_extract]
 unfold bst
 simp [List.map_take,List.map_drop]
theorem o_m3 (l:List Nat):(bst l).toList=u8l l:=by
 rw [Lib.toList_data]
 rfl
theorem o_m4 (l:List Nat):(bst l).toList.isEmpty=l.isEmpty:=by
 rw [o_m3]
 cases l<;>rfl
theorem o_m5 {a b:List Nat} (ha:∀x∈a,x<256) (hb:∀x∈b,x<256):((bst a).toList==(bst b).toList)=decide (a=b):=by
 rw [o_m3,o_m3]
 by_cases h:a=b
 ·subst h;simp
 ·rw [decide_eq_false h,beq_eq_false_iff_ne]
  exact fun h'=>h (o_km ha hb h')
end
section
def exitQ {β:Type} (id N:Nat) (T1:β→List V) (H1:β→List (Option Ob)) (R2:β→Prop) (Q:Exit→List V→List (Option Ob)→Prop):Exit→List V→List (Option Ob)→Prop
 | .exit j,T,H=>if j=id then ∃b,R2 b∧wk N T (T1 b)∧wkH N H (H1 b) else Q (.exit j) T H
 | .normal,_,_=>False
 | e,T,H=>Q e T H
attribute [simp] exitQ
end
section
open Go.RowKit
def strV (l:List (List Nat)):List V:=l.map fun w=>.d (.str (bst w))
def strD (l:List (List Nat)):List D:=l.map fun w=>.str (bst w)
theorem o_m6 (l:List (List Nat)):strV l=(strD l).map .d:=by simp [strV,strD]
@[simp] theorem o_m7 (θ:Nat→Nat) (l:List (List Nat)):V.rens θ (strV l)=strV l:=by rw [o_m6];exact o_6x θ _
@[simp] theorem o_m8 (k:Nat) (l:List (List Nat)):V.lowl k (strV l)=true:=by rw [o_m6];exact o_6y k _
@[simp] theorem o_m9 (l:List (List Nat)):(strV l).length=l.length:=by simp [strV]
@[simp] theorem o_ma (l:List (List Nat)):(strD l).length=l.length:=by simp [strD]
def fillS (done:List (List Nat)) (n:Nat):List V:=strV (done++List.replicate n [])
theorem o_mb (done:List (List Nat)) (n:Nat) (w:List Nat) (i:Nat) (hi:i=done.length):(fillS done (n+1)).set i (.d (.str (bst w)))=fillS (done++[w]) n:=by
 subst hi
 unfold fillS strV
 simp [List.replicate_succ]
@[simp] theorem o_mc (done:List (List Nat)) (n:Nat):(fillS done n).length=done.length+n:=by simp [fillS]
@[simp] theorem o_md (k:Nat) (d:List (List Nat)) (n:Nat):V.lowl k (fillS d n)=true:=o_m8 _ _
@[simp] theorem o_me (θ:Nat→Nat) (d:List (List Nat)) (n:Nat):V.rens θ (fillS d n)=fillS d n:=o_m7 _ _
theorem o_mf (n:Nat):fillS [] n=List.replicate n (.d (.str ⟨#[]⟩)):=by
 unfold fillS strV
 rw [List.nil_append,List.map_replicate]
 rfl
theorem o_mg (n:Nat):sw n n=id:=by
 funext k
 unfold sw
 split
 ·rename_i h;exact h.symm
 ·rfl
theorem o_mh (n:Nat) (T:List V):swT n n T=T:=by
 unfold swT
 rw [o_mg];exact V.rens_id0 T
set_option maxHeartbeats 4000000 in
theorem o_mi (c:Nat) (hc:c<256) (l:List Nat) (hl:∀x∈l,x<256) (hn:l.length≤100000000) :
  Eqn Tryz.prog o_a1 [.d (.str (bst l)),.d (.str (bst [c])),.d (.int .i64 0),.d (.int .i64 (-1))] [] (.row 0 0 (spltN c l).length) [⟨9,strV (spltN c l)⟩]:=by
 refine Eqn.gen [0] o_a3 (by simp) (by simp) (by rfl) (by decide) (by simp) (by simp) ?_
 refine cc (c':=?z242) ?_ ?_
 case refine_1=>cbv<;>exact rfl
 have hcnt:=o_l2 (bst l) c hc
 rw [o_ka,o_m1 c hc l hl] at hcnt
 have hN:=o_lr c l
 have hcl:l.count c≤l.length:=List.count_le_length
 obtain ⟨N,hNe⟩:∃N,N=l.count c:=⟨_,rfl⟩
 rw [←hNe] at hcnt hN hcl
 have hsep:(bst [c])=⟨#[UInt8.ofNat c]⟩:=rfl
 have w1:IntKind.i64.wrap ((N:Int)+1)=(N:Int)+1:=w64 (by omega) (by omega)
 have w2:IntKind.i64.wrap ((l.length:Int)+1)=(l.length:Int)+1:=w64 (by omega) (by omega)
 have w3:min ((N:Int)+1) ((l.length:Int)+1)=(N:Int)+1:=by omega
 have hne:(bst [c]).toList.isEmpty=false:=o_m4 [c]
 refine A11 (fs hne (fs w1 (fs w2 w3))) hcnt ?_;try with_reducible exact tt
 refine AW.loopG (α:=List (List Nat)×List Nat) (fun s=>setS (List.replicate 66 .junk) [(0,.d (.str (bst s.2))),(1,.d (.str (bst [c]))),(2,.d (.int .i64 0)),(3,.d (.int .i64 N)),(9,.own 0 1 (N+1)),(10,.d (.int .i64 (s.1.length:Nat)))]) (fun s=>[some ⟨9,fillS s.1 (N+1-s.1.length)⟩]) (fun s=>spltN c l=s.1++spltN c s.2∧(∀x∈s.2,x<256)∧s.2.length≤l.length∧s.1.length+s.2.count c=N) (fun s=>s.2.count c) ([],l) ?_ ⟨rfl,hl,Nat.le_refl _,by simp [hNe]⟩ ?_ ?_ ?_
 ·intro s _;simp
 ·simp
 ·simp [o_mf]
  all_goals (rw [←o_mf];simp)
 rintro ⟨done,rest⟩ ⟨hs,hr,hrl,hd⟩
 simp only at hs hr hrl hd
 by_cases hi:done.length<N
 ·have hmem:c∈rest:=List.count_pos_iff.1 (by omega)
  obtain ⟨a,b,rfl,h2,h3⟩:=(o_m0 c hc rest hr).resolve_left fun h=>h.1 hmem
  have hix:=o_l3 (bst (a++c::b)) c hc
  rw [o_ka,h3] at hix
  have hi1:(done.length:Int)<N:=by omega
  have hal:(a.length:Int)<100000001:=by simp at hrl;omega
  simp only [List.length_append,List.length_cons] at hrl
  have hca:a.count c=0:=List.count_eq_zero.2 h2
  have hcb:(a++c::b).count c=b.count c+1:=by rw [List.count_append,hca,List.count_cons_self];omega
  have e1:¬(a.length:Int)<0:=by omega
  have e2:IntKind.i64.wrap (a.length:Int)=a.length:=w64 (by omega) (by omega)
  have e3:IntKind.i64.wrap ((a.length:Int)+1)=(a.length:Int)+1:=w64 (by omega) (by omega)
  have e4:IntKind.i64.wrap ((done.length:Int)+1)=(done.length:Int)+1:=w64 (by omega) (by omega)
  have hx1:(bst (a++c::b)).extract 0 a.length=bst a:=by rw [o_m2];simp
  have hx2:(bst (a++c::b)).extract (a.length+1) ((a.length:Int)+((b.length:Int)+1)).toNat=bst b:=by
   rw [show ((a.length:Int)+((b.length:Int)+1)).toNat=a.length+(b.length+1) by omega,o_m2,show a.length+1=(a++[c]).length by simp,show a++c::b=(a++[c])++b by simp,List.drop_left,List.take_of_length_le (by simp;omega)]
  have hset:(fillS done (N+1-done.length)).set done.length (.d (.str (bst a)))=fillS (done++[a]) (N-done.length):=by
   rw [show N+1-done.length=(N-done.length)+1 by omega,o_mb done _ a _ rfl]
  have e6:(a.length:Int)+1≤(a.length:Int)+((b.length:Int)+1):=by omega
  simp
  refine A11 (fs hi1 (fs e1 (fs e2 (fs e3 (fs e4 (fs hx1 (fs hx2 hset))))))) hix ?_;try with_reducible exact tt
  refine ⟨done++[a],b,0,0,by simp,⟨?_,fun x hx=>hr x (by simp [hx]),by omega,by simp;omega⟩,by omega,?_,?_⟩
  ·rw [hs,o_lq h2,List.append_assoc];rfl
  ·rw [o_mh,show ((done++[a]).length:Nat)=done.length+1 by simp]
   simp
  ·simp [swH,sw,Ob.sw,V.ren,V.rens]
 ·have hi0:rest.count c=0:=by omega
  have hi1:¬(done.length:Int)<N:=by omega
  have hsp:spltN c rest=[rest]:=o_lp (List.count_eq_zero.1 hi0)
  have hdl:done.length=N:=by omega
  rw [hsp] at hs
  have hset:(fillS done (N+1-done.length)).set done.length (.d (.str (bst rest)))=strV (done++[rest]):=by
   rw [show N+1-done.length=0+1 by omega,o_mb done _ rest _ rfl];simp [fillS]
  rw [hdl,show N+1-N=1 by omega] at hset
  rw [hs]
  have e7:(done++[rest]).length=N+1:=by simp [hdl]
  simp [hdl]
  refine A10 (fs hi1 (fs hset (fs hdl w1))) ?_;try with_reducible exact tt
theorem o_mj (c:Nat) (hc:c<256) (l:List Nat) (hl:∀x∈l,x<256) (hn:l.length≤100000000) :
  Eqn Tryz.prog o_9v [.d (.str (bst l)),.d (.str (bst [c]))] [] (.row 0 0 (spltN c l).length) [⟨9,strV (spltN c l)⟩]:=by
 refine Eqn.gen [0] o_9x (by simp) (by simp) (by rfl) (by decide) (by simp) (by simp) ?_
 refine cc (c':=?z243) ?_ ?_
 case refine_1=>cbv<;>exact rfl
 have hg:=o_mi c hc l hl hn
 refine A00 ?_;try with_reducible exact tt
 refine CallS.g [] (hg) (R0 ?_);try with_reducible exact tt
end
section
open Go.RowKit Go.Conc
set_option maxHeartbeats 4000000 in
theorem o_mk (w:World) (b c cap sn rn:Nat) (buf:Array Value) (v:ByteArray) (hb:w.cell? ⟨b,0,none⟩=some (.chan (some c))) (hc:w.heap[c]?=some (.chan cap buf false sn rn false)) (hroom:buf.size<cap) :
  Calls Tryz.prog o_7r #[.pointer (some ⟨b,0,none⟩),.string v] w fun e w'=>e = .returned (.tuple #[])∧w'=w.setChan c cap (buf.push (.string v)) false (sn+1) rn false:=by
 refine calls_of_loneTo fun cs=>?_
 have e:Frame.enter Tryz.prog o_7r #[.pointer (some ⟨b,0,none⟩),.string v] .normal=(base o_7r).at ⟨#[.pointer (some ⟨b,0,none⟩),.string v,undef,undef,undef,undef,undef,undef,undef,undef,undef,undef,undef,undef,undef,undef,undef,undef,undef],[]⟩ [.code (Tryz.f21.body.getD .skip)]:=by
  simp [Frame.enter,Frame.at,Tryz.func21,base,Tryz.f21]
 rw [e]
 have a1:=Tryz.isAgg62
 have a2:=Tryz.sizeOf62
 have a3:=Tryz.underlying67
 have a4:=Tryz.zeroValue9
 refine LoneTo.goes (n:=50) ?_
 simp only [Tryz.f21,Option.getD_some]
 s_c stepG_seq
 s_c stepG_seq
 s_reg
 s_op
 s_op
 s_op
 s_op
 s_c stepG_region_end
 s_reg
 s_op
 s_c stepG_region_end
 s_c stepG_seq
 s_reg
 s_stop
 refine LoneTo.step (step_lone_select_send_room (c:=c) (cap:=cap) (buf:=buf) (s:=sn) (r:=rn) (tm:=false) (v:=.string v) (z':=.string ⟨#[]⟩) (stepG_comm (cases:=#[scase c (.string v) (.string ⟨#[]⟩)]) (blocking:=false) (shape:=.select) (w':=w) rfl rfl (by decide) (by simp [go_sem,execOp,scase,Act.eval,a4])) hc hroom) ?_
 rw [Frame.finish_at]
 walk_nrm
 refine LoneTo.goes (n:=30) ?_
 s_op
 s_op
 s_c stepG_region_end
 s_c stepG_block
 s_cond true
 s_c stepG_skip
 s_c stepG_inBlock
 s_c stepG_end
 s_stop
 exact LoneTo.done ⟨.returned (.tuple #[]),_,rfl,⟨rfl,rfl⟩,rfl,rfl,rfl,rfl,_,Tryz.func21,by simp [results,Tryz.f21,Frame.at]⟩
end
section
open Go.RowKit Go.Conc
theorem LoneTo.call {P:Program} {Q:Goroutine→World→Prop} {f:FuncId} {args:Array Value} {w:World} {R:Ending→World→Prop} {c:Frame} {cs:List Frame} (h:Calls P f args w R)
  (hR:∀e w',R e w'→∃v,e = .returned v∧LoneTo P Q (G (c.finish v) cs) w'):LoneTo P Q (G (Frame.enter P f args .normal) (c::cs)) w:=by
 obtain ⟨e,w',fr,h1,h2,h3,h4⟩:=h (c::cs)
 obtain ⟨v,rfl,g',w2,h5,h6⟩:=hR e w' h1
 have h2':Steps P (lone (Frame.enter P f args .normal) (c::cs) w) (lone fr (c::cs) w'):=h2
 exact ⟨g',w2,Steps.trans h2' (Steps.head (step_leave_returned h4) h5),h6⟩
def chO (bufs:List ByteArray):Ob:=⟨1000001,((.int .i64 64::bufs.map .str:List D)).map .d⟩
theorem o_ml {m:Mem}:∀{l:List ByteArray} {vs:List Value},V.reps m ((l.map D.str).map .d) vs→vs=l.map .string
 | [],vs,h=>by simpa using h
 | x::l,vs,h=>by
  obtain ⟨v,r,rfl,h1,h2⟩:=V.reps_cons'.1 h
  rw [o_ml h2,repStr h1];rfl
theorem o_mm {m:Mem}:∀(l:List ByteArray),V.reps m ((l.map D.str).map .d) (l.map .string)
 | []=>by simp
 | x::l=>V.reps_cons.2 ⟨by rw [V.rep_d];unfold D.rep;rfl,o_mm l⟩
theorem objCh (vs more:List Value):objOf 1000001 vs more=chanOf vs more:=by
 unfold objOf TG
 rw [if_neg (by omega),if_neg (by omega),if_pos rfl]
theorem o_mn {m:Mem} {n:Nat} {bufs:List ByteArray} (h:m.obj n (chO bufs)):∃c s r,m.ρ n=some c∧m.w.heap[c]?=some (.chan 64 (bufs.map Value.string).toArray false s r false)∧¬m.I c:=by
 obtain ⟨c,vs,more,h1,h2,h3,h4,h5⟩:=h
 obtain ⟨v,r,rfl,h6,h7⟩:=V.reps_cons'.1 h4
 rw [repInt h6,o_ml h7] at h2
 have e:∃s r,objOf (chO bufs).T (.int .i64 64::bufs.map .string) more = .chan 64 (bufs.map Value.string).toArray false s r false:=by
  rw [show (chO bufs).T=1000001 from rfl,objCh]
  unfold chanOf
  split
  ·rename_i h;cases h;exact ⟨_,_,rfl⟩
  ·rename_i h _;cases h;exact ⟨_,_,rfl⟩
  ·rename_i h1 h2;exact absurd rfl (h1 _ _)
 obtain ⟨s,r,e⟩:=e
 exact ⟨c,s,r,h1,by rw [h2,e],h5⟩
theorem o_mo {m:Mem} {n:Nat} {bufs:List ByteArray} (buf':List ByteArray) (hb:m.base) (h:m.obj n (chO bufs)) {c s r:Nat} (hc:m.ρ n=some c) (hh:m.w.heap[c]?=some (.chan 64 (bufs.map Value.string).toArray false s r false)) (hI:¬m.I c) (s' r':Nat) :
  (⟨m.ρ,m.I,m.w.setChan c 64 (buf'.map Value.string).toArray false s' r' false⟩:Mem).base∧m.le ⟨m.ρ,m.I,m.w.setChan c 64 (buf'.map Value.string).toArray false s' r' false⟩ (· = n)∧(⟨m.ρ,m.I,m.w.setChan c 64 (buf'.map Value.string).toArray false s' r' false⟩:Mem).obj n (chO buf'):=by
 have hlt:c<m.w.heap.size:=hb.dom n c hc
 have hne:∀j,j≠c→(m.w.setChan c 64 (buf'.map Value.string).toArray false s' r' false).heap[j]?=m.w.heap[j]?:=fun j hj=>by
  unfold World.setChan
  simp only [Array.getElem?_setIfInBounds]
  rw [if_neg (by omega)]
 have hsz:=size_setChan m.w c 64 (buf'.map Value.string).toArray false s' r' false
 have hself:=heap_setChan m.w c 64 (buf'.map Value.string).toArray false s' r' false hlt
 have hle:m.le ⟨m.ρ,m.I,m.w.setChan c 64 (buf'.map Value.string).toArray false s' r' false⟩ (· = n):=by
  refine ⟨fun _ _ h=>h,fun _ h=>h,rfl,rfl,rfl,trivial,by rw [hsz];exact Nat.le_refl _,fun j hj hn=>hne j fun e=>hn n rfl (e▸hc),fun j hj=>?_,fun j hj=>hne j fun e=>hI (e▸hj),fun _ h=>.inl h,fun _ _ h=>.inl h⟩
  by_cases e:j=c
  ·subst e
   unfold World.shape?
   simp only [hself,hh]
  ·unfold World.shape?
   simp only [hne j e]
 refine ⟨⟨fun j hj=>?_,fun j b hj=>?_,hb.tabs.le hle⟩,hle,c,.int .i64 64::buf'.map .string,[.int .i64 s',.int .i64 r'],hc,?_,?_,?_,hI⟩
 ·simp only [hsz];exact hb.imm j hj
 ·simp only [hsz];exact hb.dom j b hj
 ·simp only [hself]
  rw [show (chO buf').T=1000001 from rfl,objCh]
  rfl
 ·intro u hu
  rcases List.mem_cons.1 hu with rfl | hu
  ·rfl
  ·obtain ⟨x,_,rfl⟩:=List.mem_map.1 hu;rfl
 ·exact V.reps_cons.2 ⟨by rw [V.rep_d];unfold D.rep;rfl,o_mm _⟩
end
section
open Go.RowKit Go.Conc
def unBlk:Code→Code | .block _ c=>c | c=>c
def unLp:Code→Code | .loop c=>c | c=>c
noncomputable def flB:Code:=unLp (unBlk (Tryz.f25.body.getD .skip))
def boxZ:Ob:=⟨67,[.ch 1,.d .nilp,.d .nilsl]⟩
def boxU (n:Nat):Ob:=⟨67,[.ch 1,.p 0 1,.own 2 1 n]⟩
structure Fl (m0 m:Mem) (bufs:List (List Nat)) (acc:Option (List Nat)):Prop where
 base:m.base
 le:m0.le m (· < 2)
 ch:m.obj 1 (chO (bufs.map bst))
 box:match acc with
  | none=>m.obj 0 boxZ
  | some a=>m.obj 0 (boxU a.length)∧m.obj 2 (byO a)
 top:∀n,3≤n→m.ρ n=none
 top2:acc=none→m.ρ 2=none
 inj:∀n i b,m.ρ n=some b→m.ρ i=some b→n=i
 new:∀b,m.ρ 2=some b→m0.w.heap.size≤b
 top0:∀n,2≤n→m0.ρ n=none
def FlEnd (m0:Mem) (acc:Option (List Nat)) (cs:List Frame) (g':Goroutine) (w':World):Prop :=
 ∃e fr,g'=G fr cs∧(e = .returned (.tuple #[])∧∃m,m.w=w'∧Fl m0 m [] acc)∧fr.fn=o_7o∧fr.leaving Tryz.prog w' e
theorem o_mp {m:Mem} {A B:V} (h:m.obj 0 ⟨67,[.ch 1,A,B]⟩):∃b c,m.ρ 0=some b∧m.ρ 1=some c∧m.w.cell? ⟨b,0,none⟩=some (.chan (some c)):=by
 obtain ⟨b,vs,more,h1,h2,h3,h4,h5⟩:=h
 rw [o_0 (show (67:Nat)<TG by decide)] at h2
 obtain ⟨v,r,rfl,h6,h7⟩:=V.reps_cons'.1 h4
 unfold V.rep at h6
 obtain ⟨c,h8,rfl⟩:=h6
 exact ⟨b,c,h1,h8,o_7 h2 rfl⟩
def linesN (l:List (List Nat)):List Nat:=l.flatMap fun s=>s++[10]
set_option maxHeartbeats 8000000 in
theorem o_mq (m0 m:Mem) (acc:Option (List Nat)) (h:Fl m0 m [] acc) (b:Nat) (hb:m.ρ 0=some b) (cs:List Frame) (j1 j2 j3 j4 j5 j6 j7 j8 j9 j10 j11 j12 j13 j14 j15 j16:Value) :
  LoneTo Tryz.prog (FlEnd m0 acc cs) (G ((base o_7o).at ⟨#[.pointer (some ⟨b,0,none⟩),j1,j2,j3,j4,j5,j6,j7,j8,j9,j10,j11,j12,j13,j14,j15,j16],[]⟩ [.code flB,.inLoop flB,.inBlock 0]) cs) m.w:=by
 obtain ⟨b',c,h1,h2,h3⟩:∃b' c,m.ρ 0=some b'∧m.ρ 1=some c∧m.w.cell? ⟨b',0,none⟩=some (.chan (some c)):=by
  have:=h.box
  cases acc with
  | none=>exact o_mp this
  | some a=>exact o_mp this.1
 rw [hb] at h1;cases h1
 obtain ⟨c',s,r,k1,k2,k3⟩:=o_mn h.ch
 rw [h2] at k1;cases k1
 have hch:m.w.heap[c]?=some (.chan 64 #[] false s r false):=k2
 obtain ⟨w,hw⟩:∃w,w=m.w:=⟨_,rfl⟩
 rw [←hw] at h3 hch ⊢
 have HW:Go.RowKit.Hid (w=m.w):=hw
 clear hw k2
 have a1:=Tryz.isAgg62
 have a2:=Tryz.sizeOf62
 have a3:=Tryz.underlying67
 have a4:=Tryz.zeroValue9
 refine LoneTo.goes (n:=50) ?_
 simp only [flB,Tryz.f25,Option.getD_some,unBlk,unLp]
 s_c stepG_block
 s_c stepG_seq
 s_reg
 s_op
 s_op
 s_op
 s_op
 s_c stepG_region_end
 s_c stepG_seq
 s_reg
 s_stop
 refine LoneTo.step (step_lone_select_default (c:=c) (cap:=64) (s:=s) (r:=r) (tm:=false) (z:=.string ⟨#[]⟩) (stepG_comm (cases:=#[rcase c (.string ⟨#[]⟩)]) (blocking:=false) (shape:=.select) (w':=w) rfl rfl (by decide) (by simp [go_sem,execOp,rcase,Act.eval,a4])) hch) ?_
 rw [Frame.finish_at]
 walk_nrm
 refine LoneTo.goes (n:=30) ?_
 s_op
 s_op
 s_c stepG_region_end
 s_c stepG_block
 s_cond false
 s_c stepG_ret'
 s_stop
 exact LoneTo.done ⟨.returned (.tuple #[]),_,rfl,⟨rfl,m,HW.out.symm,h⟩,rfl,rfl,rfl,rfl,_,Tryz.func25,by simp [results,Tryz.f25,Frame.at]⟩
end
section
open Go.RowKit Go.Conc
def accF:Option (List Nat)→List (List Nat)→Option (List Nat)
 | a,[]=>a
 | a,t::r=>accF (some (a.getD []++(t++[10]))) r
def thR (n:Nat):Nat:=if n<2 then n else n+1
theorem o_mr {m:Mem} {T:TypeId} {c:List V} {n:Nat} (h:m.obj (thR n) ⟨T,V.rens thR c⟩):(⟨fun n=>m.ρ (thR n),m.I,m.w⟩:Mem).obj n ⟨T,c⟩:=by
 obtain ⟨b,vs,more,h1,h2,h3,h4,h5⟩:=h
 exact ⟨b,vs,more,h1,h2,h3,(V.reps_rent (m:=m) (m':=⟨fun n=>m.ρ (thR n),m.I,m.w⟩) (θ:=thR) rfl rfl (fun _=>rfl) c vs).1 h4,h5⟩
theorem o_ms {m0 m:Mem} {bufs:List (List Nat)} {acc:Option (List Nat)} (t:List Nat) (ht:∀x∈t,x<256) (hlen:(acc.getD []).length+(t.length+1)≤100000000) (h:Fl m0 m bufs acc) (b:Nat) (hb:m.ρ 0=some b) :
  Calls Tryz.prog o_7i #[.pointer (some ⟨b,1,none⟩),.string (bst (t++[10]))] m.w fun e w'=>∃v m',e = .returned v∧m'.w=w'∧Fl m0 m' bufs (some (acc.getD []++(t++[10])))∧m'.ρ 0=some b:=by
 have hreps:V.reps m [.p 0 1,.d (.str (bst (t++[10])))] [.pointer (some ⟨b,1,none⟩),.string (bst (t++[10]))] :=
  V.reps_cons.2 ⟨by unfold V.rep;exact ⟨b,hb,rfl⟩,V.reps_cons.2 ⟨by rw [V.rep_d];unfold D.rep;rfl,V.reps_nil.2 rfl⟩⟩
 have htb:∀x∈t++[10],x<256:=by
  intro x hx
  rcases List.mem_append.1 hx with hx | hx
  ·exact ht x hx
  ·simp at hx;omega
 cases acc with
 | none =>
  simp at hlen
  have E:=wstrZB (.int .i64 64::bufs.map fun s=>.str (bst s)) (t++[10]) htb (by simp) (by simp;omega)
  have hch:m.obj 1 ⟨1000001,((.int .i64 64::bufs.map fun s=>.str (bst s):List D)).map .d⟩:=by
   have:=h.ch;unfold chO at this;rw [List.map_map] at this;exact this
  have hob:∀n ob,([⟨67,[.ch 1,.d .nilp,.d .nilsl]⟩,⟨1000001,((.int .i64 64::bufs.map fun s=>.str (bst s):List D)).map .d⟩]:List Ob)[n]?=some ob→m.obj n ob:=fun n ob hn=>by
   match n,hn with
   | 0,hn=>cases hn;exact h.box
   | 1,hn=>cases hn;exact hch
   | n+2,hn=>simp at hn
  have htp:∀n,2≤n→m.ρ n=none:=fun n hn=>by
   rcases Nat.lt_or_ge n 3 with k | k
   ·obtain rfl:n=2:=by omega
    exact h.top2 rfl
   ·exact h.top n k
  rcases E.run m _ h.base hreps hob (fun n i b' _ _ h1 h2=>h.inj n i b' h1 h2) htp with ⟨v,h1,_⟩ | ⟨_,h2⟩
  ·exact absurd h1 (by rw [o_ku o_7k];simp)
  ·refine h2.mono ?_
   rintro e w' ⟨v,m',rfl,rfl,hE⟩
   have o0:=hE.obj 0 _ (by simp) rfl
   have o1:=hE.obj 1 _ (by simp) rfl
   have o2:=hE.obj 2 _ (by simp) rfl
   refine ⟨v,m',rfl,rfl,⟨hE.base,h.le.trans hE.le fun n b _ h=>h,?_,⟨o0,o2⟩,fun n hn=>hE.top n hn,by simp,fun n i b' h1 h2=>?_,fun b' hb'=>?_,h.top0⟩,hE.le.ρ 0 b hb⟩
   ·unfold chO;rw [List.map_map];exact o1
   ·rcases Nat.lt_or_ge n 3 with hn | hn
    ·rcases Nat.lt_or_ge i 3 with hi | hi
     ·exact hE.inj n i b' (by simp) (by simp) hn hi h1 h2
     ·rw [hE.top i hi] at h2;cases h2
    ·rw [hE.top n hn] at h1;cases h1
   ·rcases hE.new 2 b' (by simp) hb' with k | ⟨i,_,k,_⟩
    ·exact Nat.le_trans h.le.size k
    ·simp at k
 | some a =>
  simp at hlen
  have E:=wstrB (.int .i64 64::bufs.map fun s=>.str (bst s)) a (t++[10]) htb (by simp;omega)
  have hch:m.obj 1 ⟨1000001,((.int .i64 64::bufs.map fun s=>.str (bst s):List D)).map .d⟩:=by
   have:=h.ch;unfold chO at this;rw [List.map_map] at this;exact this
  have hob:∀n ob,([⟨67,[.ch 1,.p 0 1,.own 2 1 a.length]⟩,⟨1000001,((.int .i64 64::bufs.map fun s=>.str (bst s):List D)).map .d⟩,byO a]:List Ob)[n]?=some ob→m.obj n ob:=fun n ob hn=>by
   match n,hn with
   | 0,hn=>cases hn;exact h.box.1
   | 1,hn=>cases hn;exact hch
   | 2,hn=>cases hn;exact h.box.2
   | n+3,hn=>simp at hn
  rcases E.run m _ h.base hreps hob (fun n i b' _ _ h1 h2=>h.inj n i b' h1 h2) (fun n hn=>h.top n (by simpa using hn)) with ⟨v,h1,_⟩ | ⟨_,h2⟩
  ·exact absurd h1 (by rw [o_ku o_7k];simp)
  ·refine h2.mono ?_
   rintro e w' ⟨v,m',rfl,rfl,hE⟩
   have o0:=hE.obj 0 _ (by simp) rfl
   have o1:=hE.obj 1 _ (by simp) rfl
   have o3:=hE.obj 3 _ (by simp) rfl
   have hth:∀n,thR n≠2:=fun n=>by unfold thR;split<;>omega
   have hle:m0.le m' (· < 2):=h.le.trans hE.le fun n b' hn hn3=>by
    rcases Nat.lt_or_ge n 2 with k | k
    ·exact k
    ·have:=h.top0 n k
     rw [this] at hn;cases hn
   have hth3:∀n,3≤n→m'.ρ (thR n)=none:=fun n hn=>by
    unfold thR
    rw [if_neg (by omega)];exact hE.top (n+1) (by simp;omega)
   refine ⟨v,⟨fun n=>m'.ρ (thR n),m'.I,m'.w⟩,rfl,rfl,⟨⟨hE.base.imm,fun n b' hn=>hE.base.dom _ b' hn,hE.base.tabs⟩,?_,?_,⟨?_,?_⟩,hth3,by simp,fun n i b' h1 h2=>?_,fun b' hb'=>?_,h.top0⟩,hE.le.ρ 0 b hb⟩
   ·refine ⟨fun n b' hn=>?_,hle.I,hle.os,hle.tape,hle.output,hle.drawn,hle.size,hle.block,hle.shape,hle.imm,hle.newI,fun n b' hn=>?_⟩
    rotate_left
    ·have hn':m'.ρ (thR n)=some b':=hn
     rcases hle.newρ _ b' hn' with k | k
     ·left
      rcases Nat.lt_or_ge n 2 with q | q
      ·rwa [show thR n=n from if_pos q] at k
      ·rw [show thR n=n+1 from if_neg (by omega),h.top0 _ (by omega)] at k;cases k
     ·exact .inr k
    rcases Nat.lt_or_ge n 2 with k | k
    ·have:=hle.ρ n b' hn
     show m'.ρ (thR n)=some b'
     rw [show thR n=n from if_pos k];exact this
    ·rw [h.top0 n k] at hn;cases hn
   ·unfold chO;rw [List.map_map]
    exact o_mr (by rw [o_6x];exact o1)
   ·have e:((some a).getD []++(t++[10])).length=a.length+(t++[10]).length:=List.length_append
    have o0':m'.obj 0 ⟨67,[.ch 1,.p 0 1,.own 3 1 ((some a).getD []++(t++[10])).length]⟩:=by rw [e];exact o0
    exact o_mr o0'
   ·exact o_mr (c:=byV _) (by rw [o_lg];exact o3)
   ·have hlt:∀n b',m'.ρ (thR n)=some b'→thR n<4:=fun n b' hn=>by
     rcases Nat.lt_or_ge (thR n) 4 with k | k
     ·exact k
     ·rw [hE.top _ k] at hn;cases hn
    have:=hE.inj (thR n) (thR i) b' (by simp [hth]) (by simp [hth]) (hlt n b' h1) (hlt i b' h2) h1 h2
    unfold thR at this
    split at this<;>split at this<;>omega
   ·rcases hE.new 3 b' (by simp) hb' with k | ⟨i,_,k,k2⟩
    ·exact Nat.le_trans h.le.size k
    ·simp at k;subst k;exact h.new b' k2
end
section
open Go.RowKit Go.Conc
theorem o_mt (w:World) (s:ByteArray) (hs:s.size≤100000000):(binOp .add 9 (.string s) (.string ⟨#[10]⟩)).run Tryz.prog w = .ok (.string (s++⟨#[10]⟩)) w:=by
 have h:=Tryz.underlying9
 have h1:¬(9223372036854775807<s.size+(⟨#[10]⟩:ByteArray).size):=by
  have:(⟨#[10]⟩:ByteArray).size=1:=rfl
  omega
 simp [binOp,run_underlying h,Op.stringOp]
 omega
set_option maxHeartbeats 16000000 in
theorem o_mu (m0:Mem) (b:Nat) (cs:List Frame):∀(bufs:List (List Nat)) (acc:Option (List Nat)) (m:Mem),Fl m0 m bufs acc→m.ρ 0=some b→(∀t∈bufs,∀x∈t,x<256)→(acc.getD []).length+(linesN bufs).length≤100000000 →
  ∀(j1 j2 j3 j4 j5 j6 j7 j8 j9 j10 j11 j12 j13 j14 j15 j16:Value),
  LoneTo Tryz.prog (FlEnd m0 (accF acc bufs) cs) (G ((base o_7o).at ⟨#[.pointer (some ⟨b,0,none⟩),j1,j2,j3,j4,j5,j6,j7,j8,j9,j10,j11,j12,j13,j14,j15,j16],[]⟩ [.code flB,.inLoop flB,.inBlock 0]) cs) m.w
 | [],acc,m,h,hb,_,_=>fun j1 j2 j3 j4 j5 j6 j7 j8 j9 j10 j11 j12 j13 j14 j15 j16=>o_mq m0 m acc h b hb cs _ _ _ _ _ _ _ _ _ _ _ _ _ _ _ _
 | t::rest,acc,m,h,hb,hby,hlen=>fun j1 j2 j3 j4 j5 j6 j7 j8 j9 j10 j11 j12 j13 j14 j15 j16=>by
  obtain ⟨b',c,h1,h2,h3⟩:∃b' c,m.ρ 0=some b'∧m.ρ 1=some c∧m.w.cell? ⟨b',0,none⟩=some (.chan (some c)):=by
   have:=h.box
   cases acc with
   | none=>exact o_mp this
   | some a=>exact o_mp this.1
  rw [hb] at h1;cases h1
  obtain ⟨c',s,r,k1,k2,k3⟩:=o_mn h.ch
  rw [h2] at k1;cases k1
  obtain ⟨e1,e2,e3⟩:=o_mo (rest.map bst) h.base h.ch h2 k2 k3 s (r+1)
  have hlin:(linesN (t::rest)).length=t.length+1+(linesN rest).length:=by simp [linesN];omega
  have hne:∀(n:Nat) (ob:Ob),n≠1→m.obj n ob→(⟨m.ρ,m.I,m.w.setChan c 64 ((rest.map bst).map Value.string).toArray false s (r+1) false⟩:Mem).obj n ob:=fun n ob hn ho=>Mem.obj_keep h.base e2 (fun k b hk hn'=>by
   subst hk
   intro hk2
   exact hn (h.inj n 1 b hn' hk2)) ho
  have F:Fl m0 ⟨m.ρ,m.I,m.w.setChan c 64 ((rest.map bst).map Value.string).toArray false s (r+1) false⟩ rest acc:=by
   refine ⟨e1,h.le.trans e2 fun n b' hn h1=>by omega,e3,?_,h.top,h.top2,h.inj,h.new,h.top0⟩
   have:=h.box
   cases acc with
   | none=>exact hne 0 _ (by decide) this
   | some a=>exact ⟨hne 0 _ (by decide) this.1,hne 2 _ (by decide) this.2⟩
  have W:=o_ms t (hby t (by simp)) (by rw [hlin] at hlen;omega) F b hb
  have hsz:(bst t).size≤100000000:=by rw [o_do];rw [hlin] at hlen;omega
  have hcat:=fun w=>o_mt w (bst t) hsz
  have hst:bst t++⟨#[10]⟩=bst (t++[10]):=o_dn t [10]
  rw [hst] at hcat
  have hch:m.w.heap[c]?=some (.chan 64 (((t::rest).map bst).map Value.string).toArray false s r false):=k2
  have hx1:((((t::rest).map bst).map Value.string).toArray).getD 0 undef = .string (bst t):=rfl
  have hx2:((((t::rest).map bst).map Value.string).toArray).extract 1 ((((t::rest).map bst).map Value.string).toArray).size=((rest.map bst).map Value.string).toArray:=by
   simp
   exact List.take_of_length_le (by simp)
  have hx3:0<((((t::rest).map bst).map Value.string).toArray).size:=by simp
  generalize (((t::rest).map bst).map Value.string).toArray=BUF at *
  obtain ⟨w1,hw1⟩:∃w1,w1=m.w.setChan c 64 ((rest.map bst).map Value.string).toArray false s (r+1) false:=⟨_,rfl⟩
  rw [←hx2] at hw1
  clear e1 e2 e3 hne
  have IH:=o_mu m0 b cs rest (some (acc.getD []++(t++[10])))
  have hlt:¬(9223372036854775807<t.length+1):=by rw [hlin] at hlen;omega
  have a1:=Tryz.isAgg62
  have a2:=Tryz.sizeOf62
  have a3:=Tryz.underlying67
  have a4:=Tryz.zeroValue9
  have HW:Go.RowKit.Hid (w1=m.w.setChan c 64 (BUF.extract 1 BUF.size) false s (r+1) false):=hw1
  rw [hx2] at hw1
  rw [←hw1] at W
  clear hw1
  refine LoneTo.goes (n:=50) ?_
  simp only [flB,Tryz.f25,Option.getD_some,unBlk,unLp]
  s_c stepG_block
  s_c stepG_seq
  s_reg
  s_op
  s_op
  s_op
  s_op
  s_c stepG_region_end
  s_c stepG_seq
  s_reg
  s_stop
  refine LoneTo.step (step_lone_select_recv_buf (c:=c) (cap:=64) (s:=s) (r:=r) (tm:=false) (closed:=false) (z:=.string ⟨#[]⟩) (buf:=BUF) (stepG_comm (cases:=#[rcase c (.string ⟨#[]⟩)]) (blocking:=false) (shape:=.select) (w':=m.w) rfl rfl (by decide) (by simp [go_sem,execOp,rcase,Act.eval,a4])) hch hx3) ?_
  rw [Frame.finish_at,hx1,←HW.out]
  walk_nrm
  refine LoneTo.goes (n:=50) ?_
  s_op
  s_op
  s_c stepG_region_end
  s_c stepG_block
  s_cond true
  s_c stepG_seq
  s_reg
  s_op
  s_op
  s_c stepG_region_end
  s_reg
  s_op
  s_op
  s_op
  s_op
  s_op
  s_in
  refine goes_call rfl rfl (by decide) rfl Tryz.func42 rfl rfl ⟨trivial,?_⟩
  rw [←enter_at _ Tryz.func42 rfl]
  s_stop
  walk_nrm
  refine LoneTo.call W ?_
  rintro e' w2 ⟨v,m2,rfl,rfl,hF,hb2⟩
  refine ⟨v,rfl,?_⟩
  rw [Frame.finish_at]
  walk_nrm
  refine LoneTo.goes (n:=30) ?_
  s_c stepG_region_end
  s_c stepG_inBlock
  s_c stepG_inBlock
  s_c stepG_inLoop
  s_stop
  exact IH m2 hF hb2 (fun t' ht'=>hby t' (by simp [ht'])) (by rw [hlin] at hlen;simp;omega) _ _ _ _ _ _ _ _ _ _ _ _ _ _ _ _
end
section
open Go.RowKit
theorem AW.meet {P:Program} {L:Nat} {Q Q2:Exit→List V→List (Option Ob)→Prop} {T:List V} {H:List (Option Ob)} {x y:C} (T1:List V) (H1:List (Option Ob)) (hL:L≤H1.length)
  (h1:AW P L x (thenQ (fun T' H'=>wk H1.length T' T1∧wkH H1.length H' H1) Q) T H) (h2:AW P L y Q2 T1 H1):AW P L x (thenQ (AW P L y Q2) Q) T H:=by
 intro code hc m0 m a sat hle htop hL'
 refine wp_mono (h1 code hc m0 m a sat hle htop hL') ?_
 rintro e a' w' ⟨T',H',m',rfl,hq,rest⟩
 refine ⟨T',H',m',rfl,?_,rest⟩
 cases e with
 | normal =>
  obtain ⟨w1,w2⟩:=hq
  exact AW.weak (Weak.of w1 w2) hL h2
 | _=>exact hq
end
section
open Go.RowKit
def mlF : List (TypeId × String × FuncId) := [(425, "tallymark/chain.good", o_7x), (425, "tallymark/chain.step", o_7z), (425, "tallymark/chain.reply", o_7y), (425, "tallymark/chain.value", o_80), (425, "tallymark/chain.chance", o_7w), (425, "tallymark/chain.again", o_7v)]
theorem o_mv:∀e∈mlF,MethOK Tryz.prog e.1 e.2.1 e.2.2:=by
 unfold mlF
 simp only [List.forall_mem_cons]
 exact ⟨fun v w=>by kernel_rfl,fun v w=>by kernel_rfl,fun v w=>by kernel_rfl,fun v w=>by kernel_rfl,fun v w=>by kernel_rfl,fun v w=>by kernel_rfl,by simp⟩
def fzF (f:FuncId):Bool:=Nat.beq f o_7y
theorem o_mw {f:FuncId} {args:List V} {Hs:List Ob} {X:V} {Hs':List Ob} {dead:List Nat} (h:evF (tblP Tryz.prog) fzF (evCl (tblP Tryz.prog) fzF (orcB o_8x o_92 o_94) (mtL mlF) 3000 60) (mtL mlF) 3000 f args Hs=some (X,Hs',dead)):EqnD Tryz.prog f args Hs X Hs' dead :=
 Eqn.ev mix o_jl o_mv h
def itZ:List V:=[.d (.int .i64 0),.d (.int .i64 0),.d (.int .i64 0),.d (.int .i64 0),.d (.int .i64 0),.d (.int .i64 0),.d (.bool false),.d .nilp,.d .nilp,.d .nilp,.d .nilp]
def itG (k:Int):List V:=[.d (.int .i64 1),.d (.int .i64 2),.d (.int .i64 1),.d (.int .i64 3),.d (.int .i64 k),.d (.int .i64 0),.d (.bool false),.d .nilp,.d .nilp,.d .nilp,.d .nilp]
def repsL:Nat→List V→List V→List V
 | 0,_,r=>r
 | n+1,l,r=>l++repsL n l r
def machG (x:List V):Ob:=⟨113,.p 1 0::(itZ++(x++repsL 15 itZ []))⟩
def tapeE:Ob:=⟨138,[.d (.int .i64 0),.d (.bool false),.d .nilsl]⟩
theorem o_mx:Eqn Tryz.prog o_aw [.d .nilsl] [] (.p 0 0) [machG itZ,tapeE]:=o_mw (by kernel_rfl)
def repG (h:Int) (v:List D):List D:=[.int .i64 0,.int .i64 h,.bool false]++v++[.nilsl,.bool false,.nilsl,.nilsl,.bool false,.nilsl,.nilsl,.bool false,.nilsl,.nilsl]
def rat0:List D:=[.nilsl,.bool false,.nilsl]
def cmG (op h n:Int) (N:D):D:=.agg [.int .i64 op,.int .i64 h,.int .i64 0,.int .i64 0,.int .i64 n,.int .u64 0,N,.nilsl]
theorem o_my:Eqn Tryz.prog o_7u [.p 0 0,.d (cmG 1 0 0 (.sl 4 [.int .i64 1,.int .i64 2,.int .i64 1,.int .i64 3]))] [machG itZ,tapeE] (.d (.agg (repG 1 rat0))) [machG (itG 0),tapeE]:=o_mw (by kernel_rfl)
theorem o_mz:Eqn Tryz.prog o_7u [.p 0 0,.d (cmG 2 1 2 .nilsl)] [machG (itG 0),tapeE] (.d (.agg (repG 0 rat0))) [machG (itG 2),tapeE]:=o_mw (by kernel_rfl)
theorem o_n0:Eqn Tryz.prog o_a4 [.d (cmG 1 0 0 (.sl 4 [.int .i64 1,.int .i64 2,.int .i64 1,.int .i64 3])),.d (.agg (repG 1 rat0))] [] (.d (.str ⟨#[111,107,32,49]⟩)) []:=o_mw (by kernel_rfl)
theorem o_n1:Eqn Tryz.prog o_a4 [.d (cmG 2 1 2 .nilsl),.d (.agg (repG 0 rat0))] [] (.d (.str ⟨#[111,107]⟩)) []:=o_mw (by kernel_rfl)
theorem o_n2:Eqn Tryz.prog o_7u [.p 0 0,.d (cmG 4 1 0 .nilsl)] [machG (itG 2),tapeE] (.d (.agg (repG 0 [.sl 1 [.int .u64 2],.bool false,.nilsl]))) [machG (itG 2),tapeE]:=o_mw (by kernel_rfl)
theorem o_n3:Eqn Tryz.prog o_a4 [.d (cmG 4 1 0 .nilsl),.d (.agg (repG 0 [.sl 1 [.int .u64 2],.bool false,.nilsl]))] [] (.d (.str ⟨#[50]⟩)) []:=o_mw (by kernel_rfl)
end
section
open Go.RowKit Go.Conc
theorem o_n4:∀(l:List (List Nat)) (a:List Nat),accF (some a) l=some (a++linesN l)
 | [],a=>by simp [accF,linesN]
 | t::r,a=>by
  rw [accF,o_n4 r]
  simp [linesN]
theorem o_n5 {l:List (List Nat)} (h:l≠[]):accF none l=some (linesN l):=by
 cases l with
 | nil=>exact absurd rfl h
 | cons t r=>rw [accF,o_n4];simp [linesN]
theorem o_n6 (k:Nat) (l:List ByteArray):V.lowl k (chO l).c=true:=o_6y k _
theorem o_n7 (bufs:List (List Nat)) (t:List Nat) (h:bufs.length<64):Eqn Tryz.prog o_7r [.p 0 0,.d (.str (bst t))] [boxZ,chO (bufs.map bst)] (.tup []) [boxZ,chO ((bufs++[t]).map bst)]:=by
 refine ⟨by simp,by simp,by rfl,?_,?_⟩
 ·intro ob hob
  simp at hob
  rcases hob with rfl | rfl
  ·rfl
  ·rw [show bufs.map bst++[bst t]=(bufs++[t]).map bst by simp];exact o_n6 _ _
 intro m vs hb hv ho hinj htop
 obtain ⟨v,u,rfl,h1,h2⟩:=reps2 hv
 rw [repStr h2]
 unfold V.rep at h1
 obtain ⟨b,k1,rfl⟩:=h1
 have o0:=ho 0 _ rfl
 have o1:=ho 1 _ rfl
 obtain ⟨b',c,k2,k3,k4⟩:=o_mp (A:=.d .nilp) (B:=.d .nilsl) o0
 rw [k1] at k2;cases k2
 obtain ⟨c',s,r,k5,k6,k7⟩:=o_mn o1
 rw [k3] at k5;cases k5
 refine .inr ⟨o_ku o_7t _ _,(o_mk m.w b c 64 s r _ (bst t) k4 k6 (by simpa using h)).mono ?_⟩
 rintro e w' ⟨rfl,rfl⟩
 obtain ⟨e1,e2,e3⟩:=o_mo ((bufs++[t]).map bst) hb o1 k3 k6 k7 (s+1) r
 have hw:((bufs.map bst).map Value.string).toArray.push (.string (bst t))=(((bufs++[t]).map bst).map Value.string).toArray:=by simp
 rw [hw]
 refine ⟨.tuple #[],_,rfl,rfl,e1,e2.mono fun n b h1 h2=>by show n<2;have h2':n=1:=h2;omega,by unfold V.rep;exact ⟨[],rfl,rfl⟩,?_,?_,?_,?_⟩
 ·intro n ob _ hn
  match n,hn with
  | 0,hn =>
   cases hn
   exact Mem.obj_keep hb e2 (fun k b' hk hn'=>by
    subst hk
    intro hk2
    have:=hinj 0 1 b' (by simp) (by simp) hn' hk2
    omega) o0
  | 1,hn=>cases hn;exact e3
  | n+2,hn=>simp at hn
 ·intro n i b' _ _ hn hi h1 h2
  exact hinj n i b' hn hi h1 h2
 ·intro n hn;exact htop n hn
 ·intro n b' hn h1
  have:=htop n hn
  rw [show m.ρ n=some b' from h1] at this;cases this
theorem o_n8 {m:Mem} {bufs:List (List Nat)} (hb:m.base) (o0:m.obj 0 boxZ) (o1:m.obj 1 (chO (bufs.map bst))) (hinj:∀n i b,n<2→i<2→m.ρ n=some b→m.ρ i=some b→n=i) (htop:∀n,2≤n→m.ρ n=none):Fl m m bufs none:=by
 refine ⟨hb,Mem.le.refl m _,o1,o0,fun n hn=>htop n (by omega),fun _=>htop 2 (by omega),fun n i b h1 h2=>?_,fun b h=>(by rw [htop 2 (by omega)] at h;cases h),htop⟩
 rcases Nat.lt_or_ge n 2 with k | k
 ·rcases Nat.lt_or_ge i 2 with q | q
  ·exact hinj n i b k q h1 h2
  ·rw [htop i q] at h2;cases h2
 ·rw [htop n k] at h1;cases h1
theorem o_n9 (m:Mem) (b:Nat) (bufs:List (List Nat)) (h:Fl m m bufs none) (hb:m.ρ 0=some b) (hs:∀t∈bufs,∀x∈t,x<256) (hl:(linesN bufs).length≤100000000) :
  Calls Tryz.prog o_7o #[.pointer (some ⟨b,0,none⟩)] m.w fun e w'=>e = .returned (.tuple #[])∧∃m',m'.w=w'∧Fl m m' [] (accF none bufs):=by
 refine calls_of_loneTo fun cs=>?_
 have e:Frame.enter Tryz.prog o_7o #[.pointer (some ⟨b,0,none⟩)] .normal=(base o_7o).at ⟨#[.pointer (some ⟨b,0,none⟩),undef,undef,undef,undef,undef,undef,undef,undef,undef,undef,undef,undef,undef,undef,undef,undef],[]⟩ [.code (Tryz.f25.body.getD .skip)]:=by
  simp [Frame.enter,Frame.at,Tryz.func25,base,Tryz.f25]
 rw [e]
 have L:=o_mu m b cs bufs none m h hb hs (by simpa using hl)
 have hw:Tryz.f25.body.getD .skip = .block 0 (.loop flB):=rfl
 rw [hw]
 generalize flB=B at *
 obtain ⟨w,HW⟩:∃w,w=m.w:=⟨_,rfl⟩
 rw [←HW] at L ⊢
 refine LoneTo.goes (n:=10) ?_
 s_c stepG_block
 s_c stepG_loop
 s_stop
 exact L _ _ _ _ _ _ _ _ _ _ _ _ _ _ _ _
theorem o_na (bufs:List (List Nat)) (h0:bufs≠[]) (hs:∀t∈bufs,∀x∈t,x<256) (hl:(linesN bufs).length≤100000000):Eqn Tryz.prog o_7o [.p 0 0] [boxZ,chO (bufs.map bst)] (.tup []) [boxU (linesN bufs).length,chO [],byO (linesN bufs)]:=by
 refine ⟨by simp,by simp,by rfl,?_,?_⟩
 ·intro ob hob
  simp at hob
  rcases hob with rfl | rfl | rfl
  ·rfl
  ·exact o_n6 _ _
  ·exact o_lf _ _
 intro m vs hb hv ho hinj htop
 obtain ⟨v,rfl,h1⟩:=reps1 hv
 unfold V.rep at h1
 obtain ⟨b,k1,rfl⟩:=h1
 have F:=o_n8 hb (ho 0 _ rfl) (ho 1 _ rfl) hinj htop
 refine .inr ⟨o_ku o_7q _ _,(o_n9 m b bufs F k1 hs hl).mono ?_⟩
 rintro e w' ⟨rfl,m',rfl,hF⟩
 rw [o_n5 h0] at hF
 refine ⟨.tuple #[],m',rfl,rfl,hF.base,hF.le,by unfold V.rep;exact ⟨[],rfl,rfl⟩,?_,fun n i b' _ _ _ _ h1 h2=>hF.inj n i b' h1 h2,hF.top,?_⟩
 ·intro n ob _ hn
  match n,hn with
  | 0,hn=>cases hn;exact hF.box.1
  | 1,hn=>cases hn;exact hF.ch
  | 2,hn=>cases hn;exact hF.box.2
  | n+3,hn=>simp at hn
 ·intro n b' hn h1
  rcases Nat.lt_or_ge n 3 with k | k
  ·obtain rfl:n=2:=by simp at hn;omega
   exact .inl (hF.new b' h1)
  ·rw [hF.top n k] at h1;cases h1
end
section
open Go.RowKit
set_option maxHeartbeats 4000000 in
theorem o_nb (n:Int) (hn:inR n):Eqn Tryz.prog o_89 [.d (.int .i64 n),.d (.int .i64 10)] [] (.d (.str (bst (itoaN n)))) []:=by
 unfold inR at hn
 by_cases h0:n<0
 ·refine Eqn.pure o_8b (o_6a _) ?_
  refine cc (c':=?z244) ?_ ?_
  case refine_1=>cbv<;>exact rfl
  obtain ⟨k,rfl⟩:∃k:Nat,n = -(k:Int):=⟨n.natAbs,by omega⟩
  have hk:0<k:=by omega
  have hk2:k<18446744073709551616:=by omega
  have e1:IntKind.u64.wrap (-(k:Int))=18446744073709551616-k:=by rw [IntKind.wrap_u64];omega
  have e2:IntKind.u64.wrap (-(18446744073709551616-(k:Int)))=k:=by rw [IntKind.wrap_u64];omega
  have htx:bst (itoaN (-(k:Int)))=bst (45::padN (ndig k) k):=by
   unfold itoaN;rw [if_pos h0,show (-(k:Int)).natAbs=k by omega];rfl
  rw [htx]
  have hnd:=o_e3 k hk hk2
  have hlt:=o_dj k
  have hle:=o_dk k 20 (Nat.lt_trans hk2 (by decide)) (by decide)
  generalize ndig k=nd at *
  have hf:=o_ee k nd hk2 hle hlt [0] (List.replicate (23-nd) 0) (by simp)
  have hz:yV ([0]++(List.replicate nd 0++List.replicate (23-nd) 0))=List.replicate 24 (V.d (.int .u8 0)):=by
   rw [List.replicate_append_replicate,show nd+(23-nd)=23 by omega];rfl
  rw [hz] at hf
  have hs:(yV (0::(padN nd k++List.replicate (23-nd) 0))).set 0 (.d (.int .u8 45))=yV (45::(padN nd k++List.replicate (23-nd) 0)):=by
   show (yV (0::(padN nd k++List.replicate (23-nd) 0))).set 0 (.d (.int .u8 ((45:Nat):Int)))=_
   rw [o_e7];rfl
  have htk:(yV (45::(padN nd k++List.replicate (23-nd) 0))).take (1+nd)=yV (45::padN nd k):=by
   unfold yV
   rw [Nat.add_comm,List.map_cons,List.take_succ_cons,List.map_append,List.take_append_of_le_length (by rw [List.length_map,o_dc];exact Nat.le_refl _),List.take_of_length_le (by rw [List.length_map,o_dc];exact Nat.le_refl _)]
   rfl
  have hln:(45::padN nd k).length=1+nd:=by rw [List.length_cons,o_dc,Nat.add_comm]
  have hst:strOf (45::(padN nd k).map fun n:Nat=>(n:Int))=bst (45::padN nd k):=o_eg (45::padN nd k)
  have hni:(nd:Int)≤20:=by omega
  have w1:IntKind.i64.wrap (1+(nd:Int))=1+(nd:Int):=w64 (by omega) (by omega)
  have h1:¬(0:Int)≤-(k:Int):=by omega
  have h2:-(k:Int)<0:=by omega
  have h3:0<k:=hk
  have h4:¬k=0:=by omega
  have q1:(1+(nd:Int)).toNat-1=nd:=by omega
  have q2:(1+(nd:Int)).toNat=1+nd:=by omega
  refine A10 (fs h1 (fs h2 (fs h3 (fs h4 (fs e1 e2))))) ?_;try with_reducible exact tt
  refine CallS.pu (hnd) (R1 (fs h1 (fs h2 (fs h3 (fs h4 (fs e1 (fs e2 (fs hni (fs w1 q1)))))))) ?_);try with_reducible exact tt
  simp only [List.length_cons,List.length_nil] at hf
  refine CallS.g [0] (hf) (R1 (fs h1 (fs h2 (fs h3 (fs h4 (fs e1 (fs e2 (fs hni (fs w1 (fs q1 (fs q2 (fs hs (fs htk (fs hln hst))))))))))))) ?_);try with_reducible exact tt
  refine A10 (fs h2 (fs h3 (fs h4 (fs hni (fs w1 (fs q1 (fs q2 (fs hs (fs htk (fs hln hst)))))))))) ?_;try with_reducible exact tt
 ·obtain ⟨k,rfl⟩:∃k:Nat,n=(k:Int):=⟨n.toNat,by omega⟩
  by_cases h100:k<100
  ·refine Eqn.pure o_8b (o_6a _) ?_
   refine cc (c':=?z245) ?_ ?_
   case refine_1=>cbv<;>exact rfl
   have hsm:=o_d8 k h100
   rw [o_ei k h100] at hsm
   have ht:bst (itoaN (k:Int))=txt k:=by unfold itoaN;rw [if_neg h0];rfl
   rw [ht]
   have h1:(k:Int)<100:=by omega
   refine A11 (fs h1 h100) hsm ?_;try with_reducible exact tt
  ·refine Eqn.pure o_8b (o_6a _) ?_
   refine cc (c':=?z246) ?_ ?_
   case refine_1=>cbv<;>exact rfl
   have hk2:k<18446744073709551616:=by omega
   have e1:IntKind.u64.wrap (k:Int)=k:=by rw [IntKind.wrap_u64];omega
   have htx:bst (itoaN (k:Int))=bst (padN (ndig k) k):=by unfold itoaN;rw [if_neg h0];rfl
   rw [htx]
   have hnd:=o_e3 k (by omega) hk2
   have hlt:=o_dj k
   have hle:=o_dk k 20 (Nat.lt_trans hk2 (by decide)) (by decide)
   generalize ndig k=nd at *
   have hf:=o_ee k nd hk2 hle hlt [0] (List.replicate (23-nd) 0) (by simp)
   have hz:yV ([0]++(List.replicate nd 0++List.replicate (23-nd) 0))=List.replicate 24 (V.d (.int .u8 0)):=by
    rw [List.replicate_append_replicate,show nd+(23-nd)=23 by omega];rfl
   rw [hz] at hf
   have htk:((yV (0::(padN nd k++List.replicate (23-nd) 0))).tail).take nd=yV (padN nd k):=by
    unfold yV
    rw [List.map_cons,List.tail_cons,List.map_append,List.take_append_of_le_length (by rw [List.length_map,o_dc];exact Nat.le_refl _),List.take_of_length_le (by rw [List.length_map,o_dc];exact Nat.le_refl _)]
   have hln:(padN nd k).length=nd:=o_dc _ _
   have hst:=o_eg (padN nd k)
   have hni:(nd:Int)≤20:=by omega
   have w1:IntKind.i64.wrap (1+(nd:Int))=1+(nd:Int):=w64 (by omega) (by omega)
   have h1:¬(k:Int)<100:=by omega
   have h2:¬(k:Int)<0:=by omega
   have q1:(1+(nd:Int)).toNat-1=nd:=by omega
   have q2:(1+(nd:Int)).toNat=1+nd:=by omega
   refine A10 (fs h1 (fs h2 (fs h100 e1))) ?_;try with_reducible exact tt
   refine CallS.pu (hnd) (R1 (fs h1 (fs h2 (fs e1 (fs hni (fs w1 q1))))) ?_);try with_reducible exact tt
   simp only [List.length_cons,List.length_nil] at hf
   refine CallS.g [0] (hf) (R1 (fs h1 (fs h2 (fs e1 (fs hni (fs w1 (fs q1 (fs q2 (fs htk (fs hln hst))))))))) ?_);try with_reducible exact tt
   refine A10 (fs h1 (fs h2 (fs hni (fs w1 (fs q1 (fs q2 (fs htk (fs hln hst)))))))) ?_;try with_reducible exact tt
theorem o_nc (n:Int) (hn:inR n):Eqn Tryz.prog o_9d [.d (.int .i64 n)] [] (.d (.str (bst (itoaN n)))) []:=by
 have h1:Eqn Tryz.prog o_8f [.d (.int .i64 n)] [] (.d (.str (bst (itoaN n)))) []:=by
  refine Eqn.pure o_8h (o_6a _) ?_
  refine cc (c':=?z247) ?_ ?_
  case refine_1=>cbv<;>exact rfl
  have h:=o_nb n hn
  refine A01 h ?_;try with_reducible exact tt
 refine Eqn.pure o_9f (o_6a _) ?_
 refine cc (c':=?z248) ?_ ?_
 case refine_1=>cbv<;>exact rfl
 refine A01 h1 ?_;try with_reducible exact tt
theorem o_nd (n:Nat) (hn:n<18446744073709551616):Eqn Tryz.prog o_9a [.d (.int .u64 n),.d (.int .i64 10)] [] (.d (.str (bst (decN n)))) []:=by
 refine Eqn.pure o_9c (o_6a _) ?_
 refine cc (c':=?z249) ?_ ?_
 case refine_1=>cbv<;>exact rfl
 have h:=o_ej n hn
 rw [txt] at h
 refine A01 h ?_;try with_reducible exact tt
end
section
open Go.RowKit
theorem o_ne (k:Int) (hk:inR k):Eqn Tryz.prog o_at [.d (.int .i64 k)] [] (.d (.str (bst (wordN k)))) []:=by
 refine Eqn.pure o_av (o_6a _) ?_
 refine cc (c':=?z250) ?_ ?_
 case refine_1=>cbv<;>exact rfl
 unfold inR at hk
 by_cases h0:k<0
 ·rw [show bst (wordN k)=⟨#[]⟩ by unfold wordN;rw [if_pos h0];rfl]
  refine A10 h0 ?_;try with_reducible exact tt
 by_cases h1:10≤k
 ·have e:wordN k=[]:=by
   unfold wordN
   rw [if_neg h0,List.getD_eq_getElem?_getD,List.getElem?_eq_none (by simp [wordT];omega)];rfl
  rw [e,show bst []=⟨#[]⟩ from rfl]
  refine A10 (fs h0 h1) ?_;try with_reducible exact tt
 rcases (by omega:k=0∨k=1∨k=2∨k=3∨k=4∨k=5∨k=6∨k=7∨k=8∨k=9) with rfl | rfl | rfl | rfl | rfl | rfl | rfl | rfl | rfl | rfl
 ·rw [show bst (wordN 0)=⟨#[]⟩ from rfl]
  refine A00 ?_;try with_reducible exact tt
 ·rw [show bst (wordN 1)=⟨#[110,101,119]⟩ from rfl]
  refine A00 ?_;try with_reducible exact tt
 ·rw [show bst (wordN 2)=⟨#[97,100,100]⟩ from rfl]
  refine A00 ?_;try with_reducible exact tt
 ·rw [show bst (wordN 3)=⟨#[117,112,100,97,116,101]⟩ from rfl]
  refine A00 ?_;try with_reducible exact tt
 ·rw [show bst (wordN 4)=⟨#[113,117,101,114,121]⟩ from rfl]
  refine A00 ?_;try with_reducible exact tt
 ·rw [show bst (wordN 5)=⟨#[109,101,114,103,101]⟩ from rfl]
  refine A00 ?_;try with_reducible exact tt
 ·rw [show bst (wordN 6)=⟨#[97,110,97,108,121,115,101]⟩ from rfl]
  refine A00 ?_;try with_reducible exact tt
 ·rw [show bst (wordN 7)=⟨#[101,110,99,111,100,101]⟩ from rfl]
  refine A00 ?_;try with_reducible exact tt
 ·rw [show bst (wordN 8)=⟨#[100,101,99,111,100,101]⟩ from rfl]
  refine A00 ?_;try with_reducible exact tt
 ·rw [show bst (wordN 9)=⟨#[100,114,111,112]⟩ from rfl]
  refine A00 ?_;try with_reducible exact tt
theorem o_nf (t:Nat) (ht:t<1000000) (c:List D) (off:Nat) (hoff:off<c.length) (s:List Nat) (hs:∀x∈s,x<256) (hl:s.length≤100000000) :
  ∃v:Int,Eqn Tryz.prog o_81 [.agg [.p 0 off,.d .nilp],.d (.str (bst s))] [⟨t,c.map .d⟩] (.d (.bool (readI s).isSome)) [⟨t,(c.set off (.int .i64 v)).map .d⟩]∧∀w,readI s=some w→v=w:=by
 obtain ⟨v,E,hA,hE⟩:=o_la (bst s) (by rw [o_do];omega)
 rw [o_ka] at hE
 refine ⟨v,?_,?_⟩
 rotate_left
 ·intro w hw
  rcases hE with ⟨_,h⟩ | ⟨_,h⟩
  ·rw [o_kn (o_kr h) h] at hw
   split at hw
   ·cases hw;rfl
   ·cases hw
  ·rw [o_ko h] at hw;cases hw
 have hset:(c.map V.d).set off (.d (.int .i64 v))=(c.set off (.int .i64 v)).map .d:=by rw [List.map_set]
 refine Eqn.gen [0] o_83 (by simp) (by simp) (by rfl) (by decide) (by simp) (by simp only [List.mem_singleton];rintro ob rfl;exact o_6y _ _) ?_
 refine cc (c':=?z252) ?_ ?_
 case refine_1=>cbv<;>exact rfl
 rcases hE with ⟨rfl,h⟩ | ⟨⟨q,d,rfl⟩,h⟩
 ·have hi:=o_nc v (o_kr h)
  have hr:=o_kn (o_kr h) h
  have hq:=o_m5 (a:=itoaN v) (b:=s) (fun x hx=>by have:=o_jv v x hx;omega) hs
  have hb:(readI s).isSome=decide (itoaN v=s):=by rw [hr];split<;>simp_all
  rw [hb]
  refine A12 (fs hoff (fs ht hq)) hA hi ?_;try with_reducible exact tt
  rw [hset,o_6x];exact Subs.refl _
 ·have hb:(readI s).isSome=false:=by rw [o_ko h];rfl
  rw [hb]
  refine A11 (fs hoff ht) hA ?_;try with_reducible exact tt
  rw [hset,o_6x];exact Subs.refl _
theorem o_ng (t:Nat) (ht:t<1000000) (c:List D) (off:Nat) (hoff:off<c.length) (s:List Nat) (hs:∀x∈s,x<256) (hl:s.length≤100000000) :
  ∃v:Nat,Eqn Tryz.prog o_81 [.agg [.d .nilp,.p 0 off],.d (.str (bst s))] [⟨t,c.map .d⟩] (.d (.bool (readK s).isSome)) [⟨t,(c.set off (.int .u64 v)).map .d⟩]∧∀w,readK s=some w→v=w:=by
 obtain ⟨v,E,hA,hE⟩:=o_lb (bst s) (by rw [o_do];omega)
 rw [o_ka] at hE
 refine ⟨v,?_,?_⟩
 rotate_left
 ·intro w hw
  rcases hE with ⟨_,h⟩ | ⟨_,h⟩
  ·rw [o_kp (o_kt h) h] at hw
   split at hw
   ·cases hw;rfl
   ·cases hw
  ·rw [o_kq h] at hw;cases hw
 have hset:(c.map V.d).set off (.d (.int .u64 v))=(c.set off (.int .u64 v)).map .d:=by rw [List.map_set]
 refine Eqn.gen [0] o_83 (by simp) (by simp) (by rfl) (by decide) (by simp) (by simp only [List.mem_singleton];rintro ob rfl;exact o_6y _ _) ?_
 refine cc (c':=?z253) ?_ ?_
 case refine_1=>cbv<;>exact rfl
 rcases hE with ⟨rfl,h⟩ | ⟨⟨q,d,rfl⟩,h⟩
 ·have hi:=o_nd v (o_kt h)
  have hr:=o_kp (o_kt h) h
  have hq:=o_m5 (a:=decN v) (b:=s) (fun x hx=>by have:=o_jq v x hx;omega) hs
  have hb:(readK s).isSome=decide (decN v=s):=by rw [hr];split<;>simp_all
  rw [hb]
  refine A12 (fs hoff (fs ht hq)) hA hi ?_;try with_reducible exact tt
  rw [hset,o_6x];exact Subs.refl _
 ·have hb:(readK s).isSome=false:=by rw [o_kq h];rfl
  rw [hb]
  refine A11 (fs hoff ht) hA ?_;try with_reducible exact tt
  rw [hset,o_6x];exact Subs.refl _
theorem o_nh (t:Nat) (ht:t<1000000) (c:List D) (off:Nat) (v:Int) (hv:inR v) (hoff:c[off]?=some (.int .i64 v)) :
  Eqn Tryz.prog o_84 [.agg [.p 0 off,.d .nilp]] [⟨t,c.map .d⟩] (.d (.str (bst (itoaN v)))) [⟨t,c.map .d⟩]:=by
 refine Eqn.gen [0] o_86 (by simp) (by simp) (by rfl) (by decide) (by simp) (by simp) ?_
 refine cc (c':=?z254) ?_ ?_
 case refine_1=>cbv<;>exact rfl
 have hi:=o_nc v hv
 have hl:off<c.length:=by
  rcases Nat.lt_or_ge off c.length with h | h
  ·exact h
  ·rw [List.getElem?_eq_none h] at hoff;cases hoff
 rw [List.getElem?_eq_getElem hl] at hoff
 have hg:=Option.some.inj hoff
 refine A11 (fs ht (fs hg hl)) hi ?_;try with_reducible exact tt
theorem o_ni (t:Nat) (ht:t<1000000) (c:List D) (off:Nat) (v:Nat) (hv:v<18446744073709551616) (hoff:c[off]?=some (.int .u64 v)) :
  Eqn Tryz.prog o_84 [.agg [.d .nilp,.p 0 off]] [⟨t,c.map .d⟩] (.d (.str (bst (decN v)))) [⟨t,c.map .d⟩]:=by
 refine Eqn.gen [0] o_86 (by simp) (by simp) (by rfl) (by decide) (by simp) (by simp) ?_
 refine cc (c':=?z255) ?_ ?_
 case refine_1=>cbv<;>exact rfl
 have hi:=o_nd v hv
 have hl:off<c.length:=by
  rcases Nat.lt_or_ge off c.length with h | h
  ·exact h
  ·rw [List.getElem?_eq_none h] at hoff;cases hoff
 rw [List.getElem?_eq_getElem hl] at hoff
 have hg:=Option.some.inj hoff
 refine A11 (fs ht (fs hg hl)) hi ?_;try with_reducible exact tt
end
section
open Go.RowKit
def cmdD (c:CmdM) (N B:D):List D:=[.int .i64 c.op,.int .i64 c.h,.int .i64 c.o,.int .i64 c.i,.int .i64 c.n,.int .u64 c.key,N,B]
def offF:FldM→Nat
 | .h=>1
 | .o=>2
 | .i=>3
 | .n=>4
 | .key=>5
def fldV:FldM→List V
 | .key=>[.d .nilp,.p 0 5]
 | f=>[.p 0 (offF f),.d .nilp]
def fldsV (l:List FldM):List V:=l.flatMap fldV
set_option maxHeartbeats 4000000 in
theorem o_nj (c:CmdM) (N B:D) (hk:inR c.op):fldsN c.op.toNat≠[]→0≤c.op →
  Eqn Tryz.prog o_ae [.p 0 0] [⟨28,(cmdD c N B).map .d⟩] (.own 1 2 (fldsN c.op.toNat).length) [⟨28,(cmdD c N B).map .d⟩,⟨87,fldsV (fldsN c.op.toNat)⟩]:=by
 obtain ⟨op,h,o,i,n,key,nums,bytes⟩:=c
 simp only at *
 intro h1 h2
 obtain ⟨k,rfl⟩:∃k:Nat,op=(k:Int):=⟨op.toNat,by omega⟩
 simp only [Int.toNat_natCast] at *
 rcases (by
  rcases Nat.lt_or_ge k 10 with h | h
  ·exact .inl h
  ·exact .inr h:k<10∨10≤k) with h10 | h10
 rotate_left
 ·exfalso;apply h1
  unfold fldsN
  split<;>first | omega | rfl
 have hks:k=2∨k=3∨k=4∨k=5∨k=6∨k=7∨k=9:=by
  rcases (by omega:k=0∨k=1∨k=2∨k=3∨k=4∨k=5∨k=6∨k=7∨k=8∨k=9) with rfl | rfl | rfl | rfl | rfl | rfl | rfl | rfl | rfl | rfl<;>simp_all [fldsN]
 rcases hks with rfl | rfl | rfl | rfl | rfl | rfl | rfl
 all_goals
  simp only [fldsN,fldsV,fldV,offF,cmdD,List.flatMap_cons,List.flatMap_nil,List.map_cons,List.map_nil]
  refine Eqn.gen [0,2] o_ag (by simp) (by simp) (by rfl) (by decide) (by simp) (by simp [V.lowl,V.low]) ?_
  refine cc (c':=?z256) ?_ ?_
  case refine_1=>cbv<;>exact rfl
  refine A00 ?_;try with_reducible exact tt
theorem o_nk (c:CmdM) (N B:D) (hk:inR c.op) (h1:c.op≠2∧c.op≠3∧c.op≠4∧c.op≠5∧c.op≠6∧c.op≠7∧c.op≠9) :
  Eqn Tryz.prog o_ae [.p 0 0] [⟨28,(cmdD c N B).map .d⟩] (.d .nilsl) [⟨28,(cmdD c N B).map .d⟩]:=by
 obtain ⟨op,h,o,i,n,key,nums,bytes⟩:=c
 simp only at *
 obtain ⟨e2,e3,e4,e5,e6,e7,e9⟩:=h1
 simp only [cmdD,List.map_cons,List.map_nil]
 refine Eqn.gen [0] o_ag (by simp) (by simp) (by rfl) (by decide) (by simp) (by simp [V.lowl,V.low]) ?_
 refine cc (c':=?z257) ?_ ?_
 case refine_1=>cbv<;>exact rfl
 refine A10 (fs e2 (fs e3 (fs e4 (fs e5 (fs e6 (fs e7 e9)))))) ?_;try with_reducible exact tt
end
section
def digN:List Nat:=[48,49,50,51,52,53,54,55,56,57,97,98,99,100,101,102]
theorem o_nl:((List.range 256).all fun c=>decide (Lib.indexByte (u8l digN) (UInt8.ofNat c)=match undig c with
 | some n=>(n:Int)
 | none=>-1)&&((undig c).isSome==(u8l digN).contains (UInt8.ofNat c)))=true:=by kernel_rfl
theorem o_nm (c:Nat) (h:c<256) (n:Nat) (hn:undig c=some n):Lib.indexByte (u8l digN) (UInt8.ofNat c)=(n:Int):=by
 have:=List.all_eq_true.1 o_nl c (by simpa using h)
 simp only [Bool.and_eq_true,decide_eq_true_eq] at this
 rw [this.1,hn]
theorem o_nn (c:Nat) (h:c<256):(u8l digN).contains (UInt8.ofNat c)=(undig c).isSome:=by
 have:=List.all_eq_true.1 o_nl c (by simpa using h)
 simp only [Bool.and_eq_true,beq_iff_eq] at this
 exact this.2.symm
theorem o_no {p:UInt8→Bool}:∀l:List UInt8,l.dropWhile p=[]↔∀x∈l,p x=true
 | []=>by simp
 | a::l=>by
  rw [List.dropWhile_cons]
  by_cases h:p a=true
  ·rw [if_pos h,o_no l];simp [h]
  ·rw [if_neg h];simp [h]
theorem o_np {p:UInt8→Bool}:∀(l:List UInt8) (x:UInt8) (r:List UInt8),l.dropWhile p=x::r→¬p x=true
 | [],x,r,h=>by simp at h
 | a::l,x,r,h=>by
  rw [List.dropWhile_cons] at h
  by_cases h1:p a=true
  ·rw [if_pos h1] at h;exact o_np l x r h
  ·rw [if_neg h1] at h;cases h;exact h1
theorem o_nq {p:UInt8→Bool}:∀(l:List UInt8) (x:UInt8),x∈l.dropWhile p→x∈l
 | [],x,h=>by simp at h
 | a::l,x,h=>by
  rw [List.dropWhile_cons] at h
  by_cases h1:p a=true
  ·rw [if_pos h1] at h;exact List.mem_cons_of_mem _ (o_nq l x h)
  ·rw [if_neg h1] at h;exact h
theorem o_nr (l cs:List UInt8):Lib.trimS l cs=[]↔∀x∈l,cs.contains x=true:=by
 unfold Lib.trimS Lib.trimLeftS Lib.trimRightS
 rw [o_no]
 constructor
 ·intro h x hx
  cases hr:l.reverse.dropWhile (cs.contains ·) with
  | nil=>exact (o_no _).1 hr x (by simpa using hx)
  | cons y r =>
   exfalso
   exact o_np _ _ _ hr (h y (by rw [hr];simp))
 ·intro h x hx
  rw [List.mem_reverse] at hx
  exact h x (by simpa using o_nq _ _ hx)
theorem o_ns (s:List Nat) (hs:∀c∈s,c<256):Lib.trimS (u8l s) (u8l digN)=[]↔∀c∈s,(undig c).isSome=true:=by
 rw [o_nr]
 constructor
 ·intro h c hc
  rw [←o_nn c (hs c hc)]
  exact h _ (List.mem_map.2 ⟨c,hc,rfl⟩)
 ·intro h x hx
  obtain ⟨c,hc,rfl⟩:=List.mem_map.1 hx
  rw [o_nn c (hs c hc)];exact h c hc
theorem o_nt:∀(s:List Nat) (b:List Nat),unhexN s=some b→s.length=2*b.length
 | [],b,h=>by cases h;rfl
 | [_],b,h=>by cases h
 | a::c::r,b,h=>by
  rw [unhexN] at h
  split at h
  ·rename_i x y l h1 h2 h3
   cases h
   have:=o_nt r l h3
   simp;omega
  ·cases h
theorem o_nu:∀(s:List Nat),(∃b,unhexN s=some b)↔s.length%2=0∧∀c∈s,(undig c).isSome=true
 | []=>by simp [unhexN]
 | [a]=>by simp [unhexN]
 | a::c::r=>by
  have ih:=o_nu r
  rw [unhexN]
  constructor
  ·rintro ⟨b,h⟩
   split at h
   ·rename_i x y l h1 h2 h3
    obtain ⟨i1,i2⟩:=ih.1 ⟨l,h3⟩
    refine ⟨by simp;omega,?_⟩
    intro z hz
    simp at hz
    rcases hz with rfl | rfl | hz
    ·rw [h1];rfl
    ·rw [h2];rfl
    ·exact i2 z hz
   ·cases h
  ·rintro ⟨h1,h2⟩
   obtain ⟨b,hb⟩:=ih.2 ⟨by simp at h1;omega,fun z hz=>h2 z (by simp [hz])⟩
   obtain ⟨x,hx⟩:=Option.isSome_iff_exists.1 (h2 a (by simp))
   obtain ⟨y,hy⟩:=Option.isSome_iff_exists.1 (h2 c (by simp))
   rw [hx,hy,hb]
   exact ⟨_,rfl⟩
theorem o_nv:∀(i:Nat) (s b:List Nat),unhexN s=some b→(h:i<b.length)→∃x y,undig (s.getD (2*i) 0)=some x∧undig (s.getD (2*i+1) 0)=some y∧b[i]=x*16+y∧x<16∧y<16
 | i,[],b,hb,h=>by cases hb;simp at h
 | i,[_],b,hb,h=>by cases hb
 | i,a::c::r,b,hb,h=>by
  rw [unhexN] at hb
  split at hb
  ·rename_i x y l h1 h2 h3
   cases hb
   cases i with
   | zero=>exact ⟨x,y,by simpa using h1,by simpa using h2,rfl,(o_k3 h1).1,(o_k3 h2).1⟩
   | succ i =>
    obtain ⟨x',y',k1,k2,k3,k4⟩:=o_nv i r l h3 (by simpa using h)
    refine ⟨x',y',?_,?_,by simpa using k3,k4⟩
    ·rw [show 2*(i+1)=2*i+1+1 by omega];simpa using k1
    ·rw [show 2*(i+1)+1=2*i+1+1+1 by omega];simpa using k2
  ·cases hb
end
section
open Go.RowKit
theorem AW.loopE {P:Program} {L:Nat} {Q:Exit→List V→List (Option Ob)→Prop} {T:List V} {H:List (Option Ob)} {x:C} {α:Type} (T1:α→List V) (H1:α→List (Option Ob)) (R:α→Prop) (μ:α→Nat) (a0:α) (hL:∀a,R a→L≤(H1 a).length) (hR:R a0)
  (h0:wk (H1 a0).length T (T1 a0)) (h0':wkH (H1 a0).length H (H1 a0))
  (h:∀a,R a→AW P L x (thenQ (fun T' H'=>∃a',R a'∧μ a'<μ a∧wk (H1 a').length T' (T1 a')∧wkH (H1 a').length H' (H1 a')) Q) (T1 a) (H1 a)):AW P L (.loop x) Q T H:=by
 refine AW.weak (T1:=T1 a0) (H1:=H1 a0) (Weak.of h0 h0') (hL _ hR) ?_
 intro code hc m0 m a sat hle htop hL'
 cases code<;>simp [resolveC] at hc
 rename_i cx
 refine o_64 (fun k a w=>∃z:α,∃m,m.w=w∧k=μ z∧R z∧Sat m a (T1 z) (H1 z)∧m0.le m (· < L)∧L≤(H1 z).length) ?_ (μ a0) a m.w ⟨a0,m,rfl,rfl,hR,sat,hle,hL'⟩
 rintro k a w ⟨z,m,rfl,rfl,hz,sat,hle,hL1⟩
 refine wp_mono (h z hz cx hc m0 m a sat hle htop hL1) ?_
 rintro e a' w' ⟨T',H',m',rfl,hq,sat',hle',hL'⟩
 cases e with
 | normal =>
  obtain ⟨z',hz',hμ,hw1,hw2⟩:=hq
  obtain ⟨m2,hm2,s2,l2,n2⟩:=Sat.weaken (Weak.of hw1 hw2) sat' hle' htop (hL _ hz')
  exact ⟨μ z',hμ,z',m2,hm2,rfl,hz',s2,l2,n2⟩
 | _=>exact ⟨T',H',m',rfl,hq,sat',hle',hL'⟩
end
section
open Go.RowKit
theorem o_nw {s:List Nat} (h:∀k,0<k→k<10→wordT.getD k []≠s):opN s=0:=by
 rcases Nat.eq_zero_or_pos (opN s) with e | e
 ·exact e
 ·obtain ⟨h1,h2⟩:=o_k1 s (by omega)
  exact absurd h1 (h _ e h2)
theorem o_nx:∀k,k<10→∀x∈wordT.getD k [],x<256:=by decide
theorem o_ny (s:List Nat) (hs:∀x∈s,x<256):Eqn Tryz.prog o_ak [.d (.str (bst s))] [] (.d (.int .i64 (opN s:Nat))) []:=by
 refine Eqn.pure o_am (o_6a _) ?_
 refine cc (c':=?z258) ?_ ?_
 case refine_1=>cbv<;>exact rfl
 refine A00 ?_;try with_reducible exact tt
 refine AW.loopE (α:=Nat) (fun k=>[.d (.str (bst s)),.junk,.junk,.d (.int .i64 (k+1:Nat))]++List.replicate 9 .junk) (fun _=>[]) (fun k=>k≤9∧∀j,0<j→j≤k→wordT.getD j []≠s) (fun k=>9-k) 0 (fun _ _=>Nat.zero_le _) ⟨by omega,fun j h1 h2=>by omega⟩ ?_ ?_ ?_
 ·simp
 ·simp
 rintro k ⟨hk,hj⟩
 by_cases hk9:k<9
 ·have hw:=o_ne ((k+1:Nat):Int) (by unfold inR;omega)
  have e1:wordN ((k+1:Nat):Int)=wordT.getD (k+1) []:=by unfold wordN;rw [if_neg (by omega)];rfl
  rw [e1] at hw
  have hq:=o_m5 (o_nx (k+1) (by omega)) hs
  have h1:((k+1:Nat):Int)≤9:=by omega
  have w1:IntKind.i64.wrap (((k+1:Nat):Int)+1)=((k+1+1:Nat):Int):=by rw [w64 (by omega) (by omega)];omega
  generalize hK:k+1=K at *
  by_cases he:wordT.getD K []=s
  ·have ho:opN s=K:=by rw [←he];exact o_k0 K (by omega)
   rw [ho]
   rw [decide_eq_true he] at hq
   generalize wordT.getD K []=w at *
   refine A11 (fs h1 (fs hq w1)) hw ?_;try with_reducible exact tt
  ·rw [decide_eq_false he] at hq
   have hnj:∀j,0<j→j≤K→wordT.getD j []≠s:=fun j h2 h3=>by
    by_cases e:j=K
    ·subst e;exact he
    ·exact hj j h2 (by omega)
   generalize wordT.getD K []=w at *
   refine A11 (fs h1 (fs hq w1)) hw ?_;try with_reducible exact tt
   exact ⟨K,⟨by omega,hnj⟩,by omega,by simp⟩
 ·have ho:opN s=0:=o_nw fun j h1 h2=>hj j h1 (by omega)
  rw [ho]
  have h1:¬((k+1:Nat):Int)≤9:=by omega
  generalize k+1=K at *
  refine A10 h1 ?_;try with_reducible exact tt
end
section
open Go.RowKit
def digS:ByteArray:=⟨#[48,49,50,51,52,53,54,55,56,57,97,98,99,100,101,102]⟩
theorem o_nz:∀n,n<16→(digS.data[n]?.getD 0).toNat=dig n:=by decide
theorem o_o0:digS.size=16:=rfl
theorem o_o1 (b:List Nat) (i:Nat) (hi:i<b.length):(b.map fun n:Nat=>D.int .u8 n)[i]?=some (.int .u8 (b[i]:Nat)):=by simp [hi]
theorem o_o2 (b:List Nat) (x:Nat):hexN (b++[x])=hexN b++[dig (x/16)]++[dig (x%16)]:=by simp [hexN]
theorem o_o3 (b:List Nat):(hexN b).length=2*b.length:=by
 induction b with
 | nil=>rfl
 | cons x r ih=>simp only [hexN,List.flatMap_cons,List.length_append] at ih ⊢;rw [ih];simp;omega
theorem o_o4 (n:Nat) (h:n<16):dig n<256:=by
 have:∀n,n<16→dig n<256:=by decide
 exact this n h
theorem o_o5 (b:List Nat) (hb:∀x∈b,x<256):∀c∈hexN b,c<256:=by
 intro c h
 obtain ⟨x,hx,h⟩:=List.mem_flatMap.1 h
 have:=hb x hx
 simp at h
 rcases h with rfl | rfl
 ·exact o_o4 _ (by omega)
 ·exact o_o4 _ (by omega)
theorem o_o6:((List.range 256).all fun x=>decide (bits BinOp.and IntKind.u8 (x:Int) 15=((x%16:Nat):Int)))=true:=by kernel_rfl
theorem and15 (x:Nat) (h:x<256):bits BinOp.and IntKind.u8 (x:Int) 15=((x%16:Nat):Int):=by
 have:=List.all_eq_true.1 o_o6 x (by simpa using h)
 simpa using this
set_option maxHeartbeats 4000000 in
theorem o_o7 (b:List Nat) (hb:∀x∈b,x<256) (h0:b≠[]) (hn:b.length≤10000000):Eqn Tryz.prog o_ah [.d (.sl b.length (b.map fun n:Nat=>.int .u8 n))] [] (.d (.str (bst (hexN b)))) []:=by
 refine Eqn.pure o_aj (o_6a _) ?_
 have hD:(⟨#[48,49,50,51,52,53,54,55,56,57,97,98,99,100,101,102]⟩:ByteArray)=digS:=rfl
 refine cc (c':=?z259) ?_ ?_
 case refine_1=>cbv<;>exact rfl
 try simp only [hD]
 have hds:=o_o0
 refine A00 ?_;try with_reducible exact tt
 have hbl:0<b.length:=List.length_pos_iff.2 h0
 refine AW.loopG (α:=Nat) (fun i=>setS (List.replicate 22 .junk) [(3,.p 0 0),(6,.d (.sl b.length (b.map fun n:Nat=>.int .u8 n))),(7,.d (.int .i64 b.length)),(8,.d (.int .i64 (i:Nat)))]) (fun i=>if i=0 then [some ⟨65,[.d .nilp,.d .nilsl]⟩] else [some ⟨65,[.p 0 0,.own 1 1 (hexN (b.take i)).length]⟩,some (byO (hexN (b.take i)))]) (fun i=>i≤b.length) (fun i=>b.length-i) 0 ?_ (Nat.zero_le _) ?_ ?_ ?_
 ·intro i _;exact Nat.zero_le _
 ·simp
 ·simp
 rintro i hi
 by_cases hib:i<b.length
 ·have hi1:(i:Int)<b.length:=by omega
  have hg:=o_o1 b i hib
  have hx:b[i]<256:=hb _ (List.getElem_mem ..)
  have hsn:=o_o2 (b.take i) b[i]
  rw [←List.take_succ_eq_append_getElem hib] at hsn
  have hln:=o_o3 (b.take i)
  rw [List.length_take] at hln
  obtain ⟨x,hxe⟩:∃x,b[i]=x:=⟨_,rfl⟩
  rw [hxe] at hx hsn
  have g1:=o_nz (x/16) (by omega)
  have g2:=o_nz (x%16) (by omega)
  have b1:(x:Int)/16<16:=by omega
  have b2:bits BinOp.and IntKind.u8 (x:Int) 15=((x%16:Nat):Int):=by
   exact and15 x hx
  have b3:((x:Int)/16).toNat=x/16:=by omega
  have b5:((x:Int)%16).toNat=x%16:=by omega
  have ew:IntKind.i64.wrap ((i:Int)+1)=(i:Int)+1:=w64 (by omega) (by omega)
  by_cases hi0:i=0
  ·rw [if_pos hi0]
   have ht:b.take i=[]:=by rw [hi0];rfl
   rw [ht] at hsn
   simp
   have c1:=wbyZA (dig (x/16))
   have c2:=wbyA [dig (x/16)] (dig (x%16)) (by simp)
   simp only [byO,List.length_singleton] at c1 c2
   refine A10 (fs hi1 (fs hxe (fs hds (fs b2 (fs b3 (fs g1 (fs g2 (fs hbl hib)))))))) ?_;try with_reducible exact tt
   refine CallS.g [0] (c1) (R1 (fs hi1 (fs hxe (fs hds (fs b2 (fs b3 (fs b5 (fs g1 (fs g2 (fs hbl hib))))))))) ?_);try with_reducible exact tt
   refine CallS.g [0,1] (c2) (R1 (fs hi1 (fs hxe (fs hds (fs b2 (fs b3 (fs b5 (fs g1 (fs g2 (fs hbl hib))))))))) ?_);try with_reducible exact tt
   refine A10 ew ?_;try with_reducible exact tt
   have hsn2:hexN (b.take (i+1))=[dig (x/16),dig (x%16)]:=hsn
   refine ⟨i+1,1,2,by simp,by omega,by omega,?_,?_⟩
   ·simp [swT,swH,sw,Ob.sw,V.ren,V.rens]
   ·simp [swT,swH,sw,Ob.sw,V.ren,V.rens,hsn2,byO]
  ·rw [if_neg hi0]
   simp [byO]
   have c1:=wbyA (hexN (b.take i)) (dig (x/16)) (by omega)
   have c2:=wbyA (hexN (b.take i)++[dig (x/16)]) (dig (x%16)) (by simp;omega)
   simp only [byO,List.length_append,List.length_singleton] at c1 c2
   refine A10 (fs hi1 (fs hxe (fs hds (fs b2 (fs b3 (fs b5 (fs g1 (fs g2 (fs hbl hib))))))))) ?_;try with_reducible exact tt
   refine CallS.g [0,1] (c1) (R1 (fs hi1 (fs hxe (fs hds (fs b2 (fs b3 (fs b5 (fs g1 (fs g2 (fs hbl hib))))))))) ?_);try with_reducible exact tt
   refine CallS.g [0,2] (c2) (R1 (fs hi1 (fs hxe (fs hds (fs b2 (fs b3 (fs b5 (fs g1 (fs g2 (fs hbl hib))))))))) ?_);try with_reducible exact tt
   refine A10 ew ?_;try with_reducible exact tt
   have hsn2:hexN (b.take (i+1))=hexN (b.take i)++[dig (x/16),dig (x%16)]:=by rw [hsn];simp
   refine ⟨i+1,1,3,by simp,by omega,by omega,?_,?_⟩
   ·simp [swT,swH,sw,Ob.sw,V.ren,V.rens]
   ·simp [swT,swH,sw,Ob.sw,V.ren,V.rens,hsn2,byO]
 ·have hib2:i=b.length:=by omega
  have hz:¬i=0:=by omega
  rw [if_neg hz]
  have ht:b.take i=b:=List.take_of_length_le (by omega)
  rw [ht]
  have hi1:¬(i:Int)<b.length:=by omega
  have hln:=o_o3 b
  have hbs:=bstrA (hexN b) (o_o5 b hb) (by intro h;rw [h] at hln;simp at hln;omega) (by omega)
  simp only [byO] at hbs
  simp [byO]
  refine A10 hi1 ?_;try with_reducible exact tt
  refine CallS.g [0,1] (hbs) (R1 hi1 ?_);try with_reducible exact tt
end
section
open Go.RowKit
theorem o_o8:Eqn Tryz.prog o_aq [.d (.str (bst [45]))] [] (.tup [.d .nilsl,.d (.bool true)]) []:=by
 refine Eqn.pure o_as (o_d3 _ _) ?_
 refine cc (c':=?z260) ?_ ?_
 case refine_1=>cbv<;>exact rfl
 have h:((bst [45]).toList==[45])=true:=by rw [o_m3];rfl
 refine A10 h ?_;try with_reducible exact tt
theorem o_o9 (s:List Nat) (hs:∀x∈s,x<256) (hl:s.length≤10000000):∃r:List UInt8,Eqn Tryz.prog o_9y [.d (.str (bst s)),.d (.str digS)] [] (.d (.str ⟨r.toArray⟩)) []∧(r=[]↔∀c∈s,(undig c).isSome=true):=by
 refine ⟨_,o_l6 (bst s) digS (by rw [o_do];omega) (by decide) ?_,?_⟩
 ·intro j b hb
  have:∀b∈digS.data.toList,b.toNat<128:=by decide
  exact this b (List.mem_of_getElem? hb)
 ·exact o_ns s hs
set_option maxHeartbeats 4000000 in
theorem o_oa (s:List Nat) (hs:∀x∈s,x<256) (hl:s.length≤10000000) (h1:s≠[45]) (h2:s=[]∨unhexN s=none):Eqn Tryz.prog o_aq [.d (.str (bst s))] [] (.tup [.d .nilsl,.d (.bool false)]) []:=by
 refine Eqn.pure o_as (o_d3 _ _) ?_
 have hD:(⟨#[48,49,50,51,52,53,54,55,56,57,97,98,99,100,101,102]⟩:ByteArray)=digS:=rfl
 refine cc (c':=?z261) ?_ ?_
 case refine_1=>cbv<;>exact rfl
 try simp only [hD]
 obtain ⟨r,ht,hr⟩:=o_o9 s hs hl
 have q1:((bst s).toList==[45])=false:=by
  rw [o_m3,beq_eq_false_iff_ne]
  exact fun h=>h1 (o_km (b:=[45]) hs (by decide) h)
 have q2:=o_m4 s
 have q3:(⟨r.toArray⟩:ByteArray).toList.isEmpty=r.isEmpty:=by rw [Lib.toList_data]
 have hz:=o_do s
 by_cases h0:s=[]
 ·have q4:s.isEmpty=true:=by rw [h0];rfl
  refine A10 (fs q1 (fs q2 q4)) ?_;try with_reducible exact tt
 have q4:s.isEmpty=false:=by cases s<;>simp_all
 have w2:IntKind.i64.wrap (s.length:Int)=s.length:=w64 (by omega) (by omega)
 have hm:((s.length:Nat):Int).tmod 2=((s.length%2:Nat):Int):=by rw [Int.tmod_eq_emod_of_nonneg (by omega)];rfl
 by_cases hp:s.length%2=1
 ·have hm1:((s.length:Nat):Int).tmod 2=1:=by rw [hm,hp];rfl
  have hm2:((s.length:Nat):Int)%2=1:=by omega
  refine A10 (fs q1 (fs q2 (fs q4 (fs hz (fs hm1 hm2))))) ?_;try with_reducible exact tt
 ·have hm1:((s.length:Nat):Int).tmod 2=0:=by rw [hm,show s.length%2=0 by omega];rfl
  have hm2:((s.length:Nat):Int)%2=0:=by omega
  have hrn:r.isEmpty=false:=by
   cases r with
   | nil =>
    exfalso
    obtain ⟨b,hb⟩:=(o_nu s).2 ⟨by omega,hr.1 rfl⟩
    rcases h2 with h2 | h2
    ·exact h0 h2
    ·rw [h2] at hb;cases hb
   | cons x r=>rfl
  refine A11 (fs q1 (fs q2 (fs q3 (fs q4 (fs hz (fs hm1 (fs hm2 hrn))))))) ht ?_;try with_reducible exact tt
theorem o_ob:((List.range 16).all fun x=>(List.range 16).all fun y=>decide (bits BinOp.or IntKind.i64 ((x:Int)*16) (y:Int)=((x*16+y:Nat):Int)))=true:=by kernel_rfl
theorem or16 (x y:Nat) (hx:x<16) (hy:y<16):bits BinOp.or IntKind.i64 ((x:Int)*16) (y:Int)=((x*16+y:Nat):Int):=by
 have:=List.all_eq_true.1 (List.all_eq_true.1 o_ob x (by simpa using hx)) y (by simpa using hy)
 simpa using this
theorem o_oc (s:List Nat) (hs:∀x∈s,x<256) (i:Nat) (hi:i<s.length):((bst s).data[i]?.getD 0).toNat=s.getD i 0:=by
 have h:(bst s).data[i]?=some (UInt8.ofNat s[i]):=by
  rw [←Array.getElem?_toList,o_ka];unfold u8l;rw [List.getElem?_map,List.getElem?_eq_getElem hi];rfl
 rw [h,Option.getD_some,o_kc _ (hs _ (List.getElem_mem ..)),List.getD_eq_getElem?_getD,List.getElem?_eq_getElem hi];rfl
set_option maxHeartbeats 8000000 in
theorem o_od (s b:List Nat) (hs:∀x∈s,x<256) (hl:s.length≤10000000) (h0:s≠[]) (h2:unhexN s=some b):Eqn Tryz.prog o_aq [.d (.str (bst s))] [] (.tup [.d (.sl b.length (b.map fun n:Nat=>.int .u8 n)),.d (.bool true)]) []:=by
 refine Eqn.pure o_as (o_d3 _ _) ?_
 have hD:(⟨#[48,49,50,51,52,53,54,55,56,57,97,98,99,100,101,102]⟩:ByteArray)=digS:=rfl
 refine cc (c':=?z262) ?_ ?_
 case refine_1=>cbv<;>exact rfl
 try simp only [hD]
 obtain ⟨r,ht,hr⟩:=o_o9 s hs hl
 have hev:=o_nt s b h2
 have hal:=(o_nu s).1 ⟨b,h2⟩
 have hb:=(o_k5 s b h2).2
 have q1:((bst s).toList==[45])=false:=by
  rw [o_m3,beq_eq_false_iff_ne]
  intro h
  have:=o_km (b:=[45]) hs (by decide) h
  rw [this] at hev;simp at hev;omega
 have q2:=o_m4 s
 have q3:(⟨r.toArray⟩:ByteArray).toList.isEmpty=r.isEmpty:=by rw [Lib.toList_data]
 have hz:=o_do s
 have q4:s.isEmpty=false:=by cases s<;>simp_all
 have hm1:((s.length:Nat):Int).tmod 2=0:=by rw [Int.tmod_eq_emod_of_nonneg (by omega)];omega
 have hm2:((s.length:Nat):Int)%2=0:=by omega
 have hre:r=[]:=hr.2 hal.2
 have hrn:r.isEmpty=true:=by rw [hre];rfl
 refine A11 (fs q1 (fs q2 (fs q3 (fs q4 (fs hz (fs hm1 (fs hm2 hrn))))))) ht ?_;try with_reducible exact tt
 have hb0:b≠[]:=by rintro rfl;exact h0 (List.eq_nil_of_length_eq_zero (by simpa using hev))
 have hbl:0<b.length:=List.length_pos_iff.2 hb0
 refine AW.loopG (α:=Nat) (fun i=>setS (List.replicate 43 .junk) [(0,.d (.str (bst s))),(4,if i=0 then .d .nilsl else .own 0 1 i),(5,.d (.int .i64 (2*i:Nat)))]) (fun i=>if i=0 then [] else [some (byO (b.take i))]) (fun i=>i≤b.length) (fun i=>b.length-i) 0 ?_ (Nat.zero_le _) ?_ ?_ ?_
 ·intro i _;exact Nat.zero_le _
 ·simp
 ·simp
 rintro i hi
 by_cases hib:i<b.length
 ·have hi1:((2*i:Nat):Int)<s.length:=by omega
  obtain ⟨x,y,k1,k2,k3,k4,k5⟩:=o_nv i s b h2 hib
  have g1:=o_oc s hs (2*i) (by omega)
  have g2:=o_oc s hs (2*i+1) (by omega)
  have c1:=hs (s[2*i]'(by omega)) (List.getElem_mem ..)
  have c2:=hs (s[2*i+1]'(by omega)) (List.getElem_mem ..)
  have d1:s.getD (2*i) 0=s[2*i]'(by omega):=by rw [List.getD_eq_getElem?_getD,List.getElem?_eq_getElem (by omega)];rfl
  have d2:s.getD (2*i+1) 0=s[2*i+1]'(by omega):=by rw [List.getD_eq_getElem?_getD,List.getElem?_eq_getElem (by omega)];rfl
  rw [←d1] at c1
  rw [←d2] at c2
  clear d1 d2
  generalize s.getD (2*i) 0=C1 at *
  generalize s.getD (2*i+1) 0=C2 at *
  have i1:=o_l1 digS C1 c1
  have i2:=o_l1 digS C2 c2
  rw [show digS.data.toList=u8l digN from rfl,o_nm C1 c1 x k1] at i1
  rw [show digS.data.toList=u8l digN from rfl,o_nm C2 c2 y k2] at i2
  have w1:IntKind.i64.wrap ((x:Int)*16)=(x:Int)*16:=w64 (by omega) (by omega)
  have w2:=or16 x y k4 k5
  have w3:IntKind.u8.wrap ((x*16+y:Nat):Int)=((x*16+y:Nat):Int):=by rw [IntKind.wrap_u8];omega
  have w4:IntKind.i64.wrap (((2*i:Nat):Int)+1)=((2*i+1:Nat):Int):=by rw [w64 (by omega) (by omega)];omega
  have w5:IntKind.i64.wrap (((2*i:Nat):Int)+2)=((2*(i+1):Nat):Int):=by rw [w64 (by omega) (by omega)];omega
  rw [←k3] at w2 w3
  have hsn:=List.take_succ_eq_append_getElem hib
  have hby:byV (b.take (i+1))=byV (b.take i)++[.d (.int .u8 (b[i]:Nat))]:=by rw [hsn];exact o_li _ [b[i]]
  have htl:(b.take i).length=i:=by rw [List.length_take];omega
  generalize b[i]=z at *
  generalize hK:2*i=K at *
  by_cases hi0:i=0
  ·rw [if_pos hi0,if_pos hi0]
   simp
   refine A12 (fs hi1 (fs g1 (fs g2 (fs w1 (fs w2 (fs w3 (fs w4 (fs w5 hz)))))))) i1 i2 ?_;try with_reducible exact tt
   have hb1:byV (b.take 1)=[.d (.int .u8 z)]:=by rw [hi0] at hby;exact hby
   refine ⟨i+1,0,1,by simp,by omega,by omega,?_,?_⟩
   ·simp [swT,swH,sw,Ob.sw,V.ren,V.rens,hi0]
   ·simp [swT,swH,sw,Ob.sw,V.ren,V.rens,byO,hby,hi0,hb1]
  ·rw [if_neg hi0,if_neg hi0]
   have hlen:(byV (b.take i)).length=i:=by rw [o_lh,htl]
   have hk:(i+1)*1≤140737488355328:=by omega
   simp [byO]
   refine A12 (fs hi1 (fs g1 (fs g2 (fs w1 (fs w2 (fs w3 (fs w4 (fs w5 (fs hz (fs hlen hk)))))))))) i1 i2 ?_;try with_reducible exact tt
   refine ⟨i+1,0,2,by simp,by omega,by omega,?_,?_⟩
   ·simp [swT,swH,sw,Ob.sw,V.ren,V.rens]
   ·simp [swT,swH,sw,Ob.sw,V.ren,V.rens,byO,hby]
    all_goals (rw [←hby,o_lg];exact ⟨Subs.refl _,o_lf _ _⟩)
 ·have hib2:i=b.length:=by omega
  have hz0:¬i=0:=by omega
  rw [if_neg hz0,if_neg hz0]
  have htk:b.take i=b:=List.take_of_length_le (by omega)
  rw [htk]
  have hi1:¬((2*i:Nat):Int)<s.length:=by omega
  rw [hib2] at hi1 ⊢
  generalize 2*b.length=K at *
  refine AW.freeze 0 1 (byO b) (b.map fun n:Nat=>.int .u8 n) rfl (by simp [byO,byV]) ?_
  have htt:(b.map fun n:Nat=>D.int .u8 n).take b.length=b.map fun n:Nat=>.int .u8 n:=List.take_of_length_le (by simp)
  simp [byO,htt]
  refine A10 (fs hi1 hz) ?_;try with_reducible exact tt
end
section
open Go.RowKit
def numsD (l:List Int):D:=if l=[] then .nilsl else .sl l.length (l.map fun n:Int=>.int .i64 n)
def bytesD (l:List Nat):D:=if l=[] then .nilsl else .sl l.length (l.map fun n:Nat=>.int .u8 n)
def cmdA (c:CmdM):D:=.agg (cmdD c (numsD c.nums) (bytesD c.bytes))
def J8:V:=.agg [.junk,.junk,.junk,.junk,.junk,.junk,.junk,.junk]
theorem o_oe {m:Mem}:∀(n:Nat) (vs:List Value),vs.length=n→V.reps m (List.replicate n .junk) vs
 | 0,vs,h=>by simpa using h
 | n+1,vs,h=>by
  rcases vs with _ | ⟨v,r⟩
  ·simp at h
  ·exact V.reps_cons.2 ⟨by unfold V.rep;trivial,o_oe n r (by simpa using h)⟩
theorem sub8D (l:List D) (h:l.length=8):Sub1 (.d (.agg l)) J8:=by
 intro m v hv
 rw [V.rep_d] at hv
 unfold D.rep at hv
 obtain ⟨vs,h1,h2,h3⟩:=hv
 unfold J8 V.rep
 exact ⟨vs,h1,h2,o_oe 8 vs (by rw [D.reps_len h3,h])⟩
theorem sub8V (l:List V) (h:l.length=8):Sub1 (.agg l) J8:=by
 intro m v hv
 unfold V.rep at hv
 obtain ⟨vs,h1,h2,h3⟩:=hv
 unfold J8 V.rep
 exact ⟨vs,h1,h2,o_oe 8 vs (by rw [V.reps_len h3,h])⟩
theorem o_of {a b c:V} (h:Sub1 a b):Sub1 (.tup [a,c]) (.tup [b,c]):=by
 intro m v hv
 unfold V.rep at hv ⊢
 obtain ⟨vs,h1,h2⟩:=hv
 obtain ⟨x,y,rfl,h3,h4⟩:=reps2 h2
 exact ⟨_,h1,V.reps_cons.2 ⟨h m x h3,V.reps_cons.2 ⟨h4,V.reps_nil.2 rfl⟩⟩⟩
theorem o_og (b:Bool):(V.tup [J8,.d (.bool b)]).plain:=⟨by simp [J8,V.low,V.lowl],fun θ=>by simp [J8,V.ren,V.rens]⟩
theorem o_oh (ws:List (List Nat)) (i:Nat) (h:i<ws.length):(strD ws)[i]'(by simpa using h) = .str (bst ws[i]):=by simp [strD]
structure WsOK (ws:List (List Nat)):Prop where
 b:∀w∈ws,∀x∈w,x<256
 l:∀w∈ws,w.length≤1000000
 n:ws.length≤1000000
theorem o_oi (w:List Nat) (rest:List (List Nat)) (hw:WsOK (w::rest)) (h:opN w=0) :
  Eqn Tryz.prog o_an [.d (.sl (rest.length+1) (.str (bst w)::strD rest))] [] (.tup [J8,.d (.bool false)]) []:=by
 refine Eqn.pure o_ap (o_og _) ?_
 refine cc (c':=?z263) ?_ ?_
 case refine_1=>cbv<;>exact rfl
 have ho:=o_ny w (hw.b w (by simp))
 rw [h] at ho
 refine A01 ho ?_;try with_reducible exact tt
 exact o_of (sub8D _ rfl)
theorem o_oj (w:List Nat) (rest:List (List Nat)) (hw:WsOK (w::rest)) (h:opN w=8) (hr:rest.length≠1) :
  Eqn Tryz.prog o_an [.d (.sl (rest.length+1) (.str (bst w)::strD rest))] [] (.tup [J8,.d (.bool false)]) []:=by
 refine Eqn.pure o_ap (o_og _) ?_
 refine cc (c':=?z264) ?_ ?_
 case refine_1=>cbv<;>exact rfl
 have ho:=o_ny w (hw.b w (by simp))
 rw [h] at ho
 have h1:¬(rest.length:Int)=1:=by omega
 have h2:((rest.length:Int)+1-1).toNat=rest.length:=by omega
 refine A11 (fs h1 (fs h2 hr)) ho ?_;try with_reducible exact tt
 trace_state
 exact o_of (sub8D _ rfl)
theorem o_ok (w:List Nat) (hw:WsOK [w,[45]]) (h:opN w=8) :
  Eqn Tryz.prog o_an [.d (.sl 2 [.str (bst w),.str (bst [45])])] [] (.tup [.d (cmdA { CmdM.zero with op:=8 }),.d (.bool true)]) []:=by
 refine Eqn.pure o_ap (o_d3 _ _) ?_
 refine cc (c':=?z265) ?_ ?_
 case refine_1=>cbv<;>exact rfl
 have ho:=o_ny w (hw.b w (by simp))
 rw [h] at ho
 have hu:=o_o8
 have hc:cmdA { CmdM.zero with op:=8 } = .agg [.int .i64 8,.int .i64 0,.int .i64 0,.int .i64 0,.int .i64 0,.int .u64 0,.nilsl,.nilsl]:=rfl
 rw [hc]
 generalize bst [45]=z at *
 refine A02 ho hu ?_;try with_reducible exact tt
theorem o_ol (w s:List Nat) (hw:WsOK [w,s]) (h:opN w=8) (h1:s≠[45]) (h2:s=[]∨unhexN s=none) :
  Eqn Tryz.prog o_an [.d (.sl 2 [.str (bst w),.str (bst s)])] [] (.tup [J8,.d (.bool false)]) []:=by
 refine Eqn.pure o_ap (o_og _) ?_
 refine cc (c':=?z266) ?_ ?_
 case refine_1=>cbv<;>exact rfl
 have ho:=o_ny w (hw.b w (by simp))
 rw [h] at ho
 have hu:=o_oa s (hw.b s (by simp)) (by have:=hw.l s (by simp);omega) h1 h2
 refine A02 ho hu ?_;try with_reducible exact tt
 exact o_of (sub8D _ rfl)
theorem o_om (w s b:List Nat) (hw:WsOK [w,s]) (h:opN w=8) (h0:s≠[]) (h2:unhexN s=some b) :
  Eqn Tryz.prog o_an [.d (.sl 2 [.str (bst w),.str (bst s)])] [] (.tup [.d (cmdA { CmdM.zero with op:=8,bytes:=b }),.d (.bool true)]) []:=by
 refine Eqn.pure o_ap (o_d3 _ _) ?_
 refine cc (c':=?z267) ?_ ?_
 case refine_1=>cbv<;>exact rfl
 have ho:=o_ny w (hw.b w (by simp))
 rw [h] at ho
 have hu:=o_od s b (hw.b s (by simp)) (by have:=hw.l s (by simp);omega) h0 h2
 have hev:=o_nt s b h2
 have hb0:b≠[]:=by rintro rfl;exact h0 (List.eq_nil_of_length_eq_zero (by simpa using hev))
 have hc:cmdA { CmdM.zero with op:=8,bytes:=b } = .agg [.int .i64 8,.int .i64 0,.int .i64 0,.int .i64 0,.int .i64 0,.int .u64 0,.nilsl,.sl b.length (b.map fun n:Nat=>.int .u8 n)]:=by
  unfold cmdA cmdD bytesD;rw [if_neg hb0];rfl
 rw [hc]
 refine A02 ho hu ?_;try with_reducible exact tt
end
section
open Go.RowKit
theorem o_on (k:Nat) (hk:k<10) (h1:k≠0) (h2:k≠1) (h3:k≠8):fldsN k≠[]∧(fldsN k).length≤4:=by
 have:∀k,k<10→k≠0→k≠1→k≠8→fldsN k≠[]∧(fldsN k).length≤4:=by decide
 exact this k hk h1 h2 h3
@[simp] theorem o_oo (k:Nat) (hk:0<k) (l:List FldM):V.lowl k (fldsV l)=true:=by
 induction l with
 | nil=>rfl
 | cons f l ih=>cases f<;>simp_all [fldsV,fldV,V.lowl,V.low]
def fldW (n:Nat):FldM→List V
 | .key=>[.d .nilp,.p n 5]
 | f=>[.p n (offF f),.d .nilp]
def fldsW (n:Nat) (l:List FldM):List V:=l.flatMap (fldW n)
theorem o_op (n:Nat) (f:FldM) (l:List FldM):fldsW n (f::l)=fldW n f++fldsW n l:=rfl
theorem o_oq (θ:Nat→Nat) (n:Nat) (f:FldM):V.rens θ (fldW n f)=fldW (θ n) f:=by cases f<;>rfl
theorem o_or (θ:Nat→Nat):∀(a b:List V),V.rens θ (a++b)=V.rens θ a++V.rens θ b
 | [],b=>by simp [V.rens]
 | x::a,b=>by simp only [List.cons_append,V.rens,o_or θ a b]
@[simp] theorem o_os (θ:Nat→Nat) (n:Nat) (l:List FldM):V.rens θ (fldsW n l)=fldsW (θ n) l:=by
 induction l with
 | nil=>rfl
 | cons f l ih=>rw [o_op,o_or,ih,o_oq];rfl
theorem o_ot (l:List FldM):fldsV l=fldsW 0 l:=by
 induction l with
 | nil=>rfl
 | cons f l ih =>
  rw [o_op,←ih]
  cases f<;>rfl
theorem o_ou (n:Nat) (f:FldM):(fldW n f).length=2:=by cases f<;>rfl
@[simp] theorem o_ov (n:Nat) (l:List FldM):(fldsW n l).length=l.length*2:=by
 induction l with
 | nil=>rfl
 | cons f l ih=>rw [o_op,List.length_append,ih,o_ou,List.length_cons];omega
theorem o_ow (k:Nat):∀(a b:List V),V.lowl k a=true→V.lowl k b=true→V.lowl k (a++b)=true
 | [],b,_,h=>h
 | x::a,b,h,h'=>by
  simp only [V.lowl,Bool.and_eq_true] at h
  simp only [List.cons_append,V.lowl,Bool.and_eq_true]
  exact ⟨h.1,o_ow k a b h.2 h'⟩
theorem o_ox (k n:Nat) (h:n<k) (l:List FldM):V.lowl k (fldsW n l)=true:=by
 induction l with
 | nil=>rfl
 | cons f l ih =>
  rw [o_op]
  refine o_ow k _ _ ?_ ih
  cases f<;>simp [fldW,V.lowl,V.low,h]
theorem o_oy (n:Nat):∀(i:Nat) (l:List FldM) (h:i<l.length),((fldsW n l).drop (i*2)).take 2=fldW n l[i]
 | _,[],h=>by simp at h
 | 0,f::l,h=>by cases f<;>rfl
 | i+1,f::l,h=>by
  have e:(fldsW n (f::l)).drop ((i+1)*2)=(fldsW n l).drop (i*2):=by
   rw [o_op,show (i+1)*2=(fldW n f).length+i*2 by rw [o_ou];omega,List.drop_append]
   simp
  rw [e,o_oy n i l (by simpa using h)]
  rfl
def resF:Option CmdM→V
 | some c=>.tup [.d (.agg (cmdD c .nilsl .nilsl)),.d (.bool true)]
 | none=>.tup [J8,.d (.bool false)]
theorem o_oz (c:CmdM) (f:FldM) (l:List FldM) (s:List Nat) (r:List (List Nat)):setsF c (f::l) (s::r)=(setF c s f).bind fun c'=>setsF c' l r:=rfl
set_option maxHeartbeats 16000000 in
theorem o_p0 (w:List Nat) (rest:List (List Nat)) (hw:WsOK (w::rest)) (h0:opN w≠0) (h1:opN w≠1) (h8:opN w≠8) (hl:(fldsN (opN w)).length=rest.length) :
  Eqn Tryz.prog o_an [.d (.sl (rest.length+1) (.str (bst w)::strD rest))] [] (resF (setsF { CmdM.zero with op:=opN w } (fldsN (opN w)) rest)) []:=by
 refine Eqn.pure o_ap (by unfold resF;split;exact o_d3 _ _;exact o_og _) ?_
 refine cc (c':=?z268) ?_ ?_
 case refine_1=>cbv<;>exact rfl
 have ho:=o_ny w (hw.b w (by simp))
 have hk10:opN w<10:=(o_k1 w h0).2
 have hf:=o_nj { CmdM.zero with op:=opN w } .nilsl .nilsl (by unfold inR;simp only;omega)
 simp only [Int.toNat_natCast] at hf
 obtain ⟨hfn,hf4⟩:=o_on (opN w) hk10 h0 h1 h8
 replace hf:=hf hfn (by omega)
 generalize fldsN (opN w)=L at *
 have g0:¬((opN w:Nat):Int)=0:=by omega
 have g1:¬((opN w:Nat):Int)=1:=by omega
 have g8:¬((opN w:Nat):Int)=8:=by omega
 have h2:((rest.length:Int)+1-1).toNat=rest.length:=by omega
 have hl2:(L.length:Int)=rest.length:=by omega
 rw [o_ot] at hf
 simp only [cmdD,CmdM.zero,List.map_cons,List.map_nil] at hf
 generalize opN w=k at *
 obtain ⟨tot,htot⟩:∃tot,tot=setsF { CmdM.zero with op:=(k:Int) } L rest:=⟨_,rfl⟩
 rw [←htot]
 have htk:(strD rest).take rest.length=strD rest:=List.take_of_length_le (by simp)
 refine A11 (fs g0 (fs g1 (fs g8 (fs h2 (fs h0 (fs h1 (fs h8 (fs hl2 hl)))))))) ho ?_;try with_reducible exact tt
 refine CallS.g [1] (hf) (R1 (fs hl2 (fs hl htk)) ?_);try with_reducible exact tt
 refine A10 (fs hl2 (fs hl htk)) ?_;try with_reducible exact tt
 refine AW.loopE (α:=Nat×CmdM) (fun s=>setS (List.replicate 93 .junk) [(2,.p 0 0),(4,.p 1 0),(5,.d (.sl rest.length (strD rest))),(76,.own 2 2 rest.length),(77,.d (.int .i64 rest.length)),(78,.d (.int .i64 (s.1:Nat)))]) (fun s=>[some ⟨28,[.d (.int .i64 0),.d (.int .i64 0),.d (.int .i64 0),.d (.int .i64 0),.d (.int .i64 0),.d (.int .u64 0),.d .nilsl,.d .nilsl]⟩,some ⟨28,(cmdD s.2 .nilsl .nilsl).map .d⟩,some ⟨87,fldsW 1 L⟩]) (fun s=>s.1≤rest.length∧setsF s.2 (L.drop s.1) (rest.drop s.1)=tot) (fun s=>rest.length-s.1) (0,{ CmdM.zero with op:=(k:Int) }) ?_ ⟨Nat.zero_le _,htot.symm⟩ ?_ ?_ ?_
 ·intro s _;exact Nat.zero_le _
 ·simp
 ·simp [cmdD,CmdM.zero,o_ox]
 rintro ⟨i,c⟩ ⟨hi,hs⟩
 simp only at hi hs
 by_cases hir:i<rest.length
 ·have hi1:(i:Int)<rest.length:=by omega
  have hiL:i<L.length:=by omega
  rw [List.drop_eq_getElem_cons hiL,List.drop_eq_getElem_cons hir,o_oz] at hs
  have hg:=o_oy 1 i L hiL
  have hsg:(strD rest)[i]?.getD default = .str (bst rest[i]):=by
   rw [List.getElem?_eq_getElem (by simpa using hir),Option.getD_some];exact o_oh rest i hir
  have hwb:=hw.b (rest[i]) (by simp)
  have hwl:=hw.l (rest[i]) (by simp)
  have hbd:i*2+2≤rest.length*2:=by omega
  generalize rest[i]=s at *
  have ew:IntKind.i64.wrap ((i:Int)+1)=(i:Int)+1:=w64 (by omega) (by omega)
  generalize L[i]=f at *
  cases f with
  | h =>
   obtain ⟨v,hv,hv2⟩:=o_nf 28 (by decide) (cmdD c .nilsl .nilsl) 1 (by simp [cmdD]) s hwb (by omega)
   simp only [fldW,offF] at hg
   simp only [setF] at hs
   simp [cmdD] at hv
   simp [cmdD]
   cases hr:readI s with
   | none =>
    rw [hr] at hv hs
    have hn:tot=none:=by rw [←hs];rfl
    simp at hv
    subst hn
    refine A10 (fs hi1 (fs hl2 (fs hl (fs hg (fs hsg hbd))))) ?_;try with_reducible exact tt
    refine CallS.g [1] (hv) (R1 (fs hi1 (fs hl2 hl)) ?_);try with_reducible exact tt
    refine A00 ?_;try with_reducible exact tt
    exact o_of (sub8D _ rfl)
   | some u =>
    have hvu:=hv2 u hr
    subst hvu
    rw [hr] at hv hs
    simp at hv
    refine A10 (fs hi1 (fs hl2 (fs hl (fs hg (fs hsg hbd))))) ?_;try with_reducible exact tt
    refine CallS.g [1] (hv) (R1 (fs hi1 (fs hl2 hl)) ?_);try with_reducible exact tt
    refine A10 ew ?_;try with_reducible exact tt
    exact ⟨i+1,{ c with h:=v },⟨by omega,hs⟩,by omega,by simp,by simp [cmdD,o_ox]⟩
  | o =>
   obtain ⟨v,hv,hv2⟩:=o_nf 28 (by decide) (cmdD c .nilsl .nilsl) 2 (by simp [cmdD]) s hwb (by omega)
   simp only [fldW,offF] at hg
   simp only [setF] at hs
   simp [cmdD] at hv
   simp [cmdD]
   cases hr:readI s with
   | none =>
    rw [hr] at hv hs
    have hn:tot=none:=by rw [←hs];rfl
    simp at hv
    subst hn
    refine A10 (fs hi1 (fs hl2 (fs hl (fs hg (fs hsg hbd))))) ?_;try with_reducible exact tt
    refine CallS.g [1] (hv) (R1 (fs hi1 (fs hl2 hl)) ?_);try with_reducible exact tt
    refine A00 ?_;try with_reducible exact tt
    exact o_of (sub8D _ rfl)
   | some u =>
    have hvu:=hv2 u hr
    subst hvu
    rw [hr] at hv hs
    simp at hv
    refine A10 (fs hi1 (fs hl2 (fs hl (fs hg (fs hsg hbd))))) ?_;try with_reducible exact tt
    refine CallS.g [1] (hv) (R1 (fs hi1 (fs hl2 hl)) ?_);try with_reducible exact tt
    refine A10 ew ?_;try with_reducible exact tt
    exact ⟨i+1,{ c with o:=v },⟨by omega,hs⟩,by omega,by simp,by simp [cmdD,o_ox]⟩
  | i =>
   obtain ⟨v,hv,hv2⟩:=o_nf 28 (by decide) (cmdD c .nilsl .nilsl) 3 (by simp [cmdD]) s hwb (by omega)
   simp only [fldW,offF] at hg
   simp only [setF] at hs
   simp [cmdD] at hv
   simp [cmdD]
   cases hr:readI s with
   | none =>
    rw [hr] at hv hs
    have hn:tot=none:=by rw [←hs];rfl
    simp at hv
    subst hn
    refine A10 (fs hi1 (fs hl2 (fs hl (fs hg (fs hsg hbd))))) ?_;try with_reducible exact tt
    refine CallS.g [1] (hv) (R1 (fs hi1 (fs hl2 hl)) ?_);try with_reducible exact tt
    refine A00 ?_;try with_reducible exact tt
    exact o_of (sub8D _ rfl)
   | some u =>
    have hvu:=hv2 u hr
    subst hvu
    rw [hr] at hv hs
    simp at hv
    refine A10 (fs hi1 (fs hl2 (fs hl (fs hg (fs hsg hbd))))) ?_;try with_reducible exact tt
    refine CallS.g [1] (hv) (R1 (fs hi1 (fs hl2 hl)) ?_);try with_reducible exact tt
    refine A10 ew ?_;try with_reducible exact tt
    exact ⟨i+1,{ c with i:=v },⟨by omega,hs⟩,by omega,by simp,by simp [cmdD,o_ox]⟩
  | n =>
   obtain ⟨v,hv,hv2⟩:=o_nf 28 (by decide) (cmdD c .nilsl .nilsl) 4 (by simp [cmdD]) s hwb (by omega)
   simp only [fldW,offF] at hg
   simp only [setF] at hs
   simp [cmdD] at hv
   simp [cmdD]
   cases hr:readI s with
   | none =>
    rw [hr] at hv hs
    have hn:tot=none:=by rw [←hs];rfl
    simp at hv
    subst hn
    refine A10 (fs hi1 (fs hl2 (fs hl (fs hg (fs hsg hbd))))) ?_;try with_reducible exact tt
    refine CallS.g [1] (hv) (R1 (fs hi1 (fs hl2 hl)) ?_);try with_reducible exact tt
    refine A00 ?_;try with_reducible exact tt
    exact o_of (sub8D _ rfl)
   | some u =>
    have hvu:=hv2 u hr
    subst hvu
    rw [hr] at hv hs
    simp at hv
    refine A10 (fs hi1 (fs hl2 (fs hl (fs hg (fs hsg hbd))))) ?_;try with_reducible exact tt
    refine CallS.g [1] (hv) (R1 (fs hi1 (fs hl2 hl)) ?_);try with_reducible exact tt
    refine A10 ew ?_;try with_reducible exact tt
    exact ⟨i+1,{ c with n:=v },⟨by omega,hs⟩,by omega,by simp,by simp [cmdD,o_ox]⟩
  | key =>
   obtain ⟨v,hv,hv2⟩:=o_ng 28 (by decide) (cmdD c .nilsl .nilsl) 5 (by simp [cmdD]) s hwb (by omega)
   simp only [fldW,offF] at hg
   simp only [setF] at hs
   simp [cmdD] at hv
   simp [cmdD]
   cases hr:readK s with
   | none =>
    rw [hr] at hv hs
    have hn:tot=none:=by rw [←hs];rfl
    simp at hv
    subst hn
    refine A10 (fs hi1 (fs hl2 (fs hl (fs hg (fs hsg hbd))))) ?_;try with_reducible exact tt
    refine CallS.g [1] (hv) (R1 (fs hi1 (fs hl2 hl)) ?_);try with_reducible exact tt
    refine A00 ?_;try with_reducible exact tt
    exact o_of (sub8D _ rfl)
   | some u =>
    have hvu:=hv2 u hr
    subst hvu
    rw [hr] at hv hs
    simp at hv
    refine A10 (fs hi1 (fs hl2 (fs hl (fs hg (fs hsg hbd))))) ?_;try with_reducible exact tt
    refine CallS.g [1] (hv) (R1 (fs hi1 (fs hl2 hl)) ?_);try with_reducible exact tt
    refine A10 ew ?_;try with_reducible exact tt
    exact ⟨i+1,{ c with key:=v },⟨by omega,hs⟩,by omega,by simp,by simp [cmdD,o_ox]⟩
 ·have hi0:i=rest.length:=by omega
  have hi1:¬(i:Int)<rest.length:=by omega
  rw [List.drop_of_length_le (by omega),List.drop_of_length_le (by omega)] at hs
  have hn:tot=some c:=hs.symm
  subst hn
  simp [cmdD,resF]
  refine A10 hi1 ?_;try with_reducible exact tt
end
end Go.Proofs.YtdakiocgijlgiaaGreatDoor.Am
