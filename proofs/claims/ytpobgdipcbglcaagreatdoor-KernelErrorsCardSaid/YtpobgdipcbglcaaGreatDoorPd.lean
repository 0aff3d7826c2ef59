/- Parts of the proof: AmEv, EvN, AmLB, AmCu, KeO, SkA, KeT, KeTb. -/
import Derived.Test.YtpobgdipcbglcaaGreatDoorPc
set_option linter.unusedVariables false
set_option linter.unusedSimpArgs false
set_option maxRecDepth 100000
namespace Go.Proofs.YtpobgdipcbglcaaGreatDoor.Am
section
open Go.RowKit
abbrev R4:=V×List (Option Ob)×List Nat×List Nat
def R4.then (r:R4) (K:V→List (Option Ob)→List Nat→List Nat→Prop):Prop:=K r.1 r.2.1 r.2.2.1 r.2.2.2

def o_hp (k:IntKind) (a:Int) (k':IntKind) (b:Int):Option D:=if 0≤b∧b≤k.bits then some (.int k (k.wrap (a*2^b.toNat))) else none
def o_hq (k:IntKind) (a:Int) (k':IntKind) (b:Int):Option D:=if 0≤b∧b≤k.bits then some (.int k (a/2^b.toNat)) else none
def o_hr (k:IntKind) (a:Int) (k':IntKind) (b:Int):Option D:=if k=k' then some (.int k (k.wrap (a+b))) else none
def o_hs (k:IntKind) (a:Int) (k':IntKind) (b:Int):Option D:=if k=k' then some (.int k (k.wrap (a-b))) else none
def o_ht (k:IntKind) (a:Int) (k':IntKind) (b:Int):Option D:=if k=k' then some (.int k (k.wrap (a*b))) else none
def o_hu (k:IntKind) (a:Int) (k':IntKind) (b:Int):Option D:=if k=k'∧b≠0 then some (.int k (k.wrap (a.tdiv b))) else none
def o_hv (k:IntKind) (a:Int) (k':IntKind) (b:Int):Option D:=if k=k'∧b≠0 then some (.int k (a.tmod b)) else none
def o_hw (k:IntKind) (a:Int) (k':IntKind) (b:Int):Option D:=if k=k' then some (.int k (bits .and k a b)) else none
def o_hx (k:IntKind) (a:Int) (k':IntKind) (b:Int):Option D:=if k=k' then some (.int k (bits .or k a b)) else none
def o_hy (k:IntKind) (a:Int) (k':IntKind) (b:Int):Option D:=if k=k' then some (.int k (bits .xor k a b)) else none
def o_hz (k:IntKind) (a:Int) (k':IntKind) (b:Int):Option D:=if k=k' then some (.int k (bits .andNot k a b)) else none
def o_i0 (k:IntKind) (a:Int) (k':IntKind) (b:Int):Option D:=if k=k' then some (.bool (a==b)) else none
def o_i1 (k:IntKind) (a:Int) (k':IntKind) (b:Int):Option D:=if k=k' then some (.bool (a != b)) else none
def o_i2 (k:IntKind) (a:Int) (k':IntKind) (b:Int):Option D:=if k=k' then some (.bool (decide (a<b))) else none
def o_i3 (k:IntKind) (a:Int) (k':IntKind) (b:Int):Option D:=if k=k' then some (.bool (decide (a≤b))) else none
def o_i4 (k:IntKind) (a:Int) (k':IntKind) (b:Int):Option D:=if k=k' then some (.bool (decide (b<a))) else none
def o_i5 (k:IntKind) (a:Int) (k':IntKind) (b:Int):Option D:=if k=k' then some (.bool (decide (b≤a))) else none
def evInt (op:BinOp) (k:IntKind) (a:Int) (k':IntKind) (b:Int):Option D :=
 match op with
 | .shl=>o_hp k a k' b
 | .shr=>o_hq k a k' b
 | .add=>o_hr k a k' b
 | .sub=>o_hs k a k' b
 | .mul=>o_ht k a k' b
 | .quo=>o_hu k a k' b
 | .rem=>o_hv k a k' b
 | .and=>o_hw k a k' b
 | .or=>o_hx k a k' b
 | .xor=>o_hy k a k' b
 | .andNot=>o_hz k a k' b
 | .eql=>o_i0 k a k' b
 | .neq=>o_i1 k a k' b
 | .lss=>o_i2 k a k' b
 | .leq=>o_i3 k a k' b
 | .gtr=>o_i4 k a k' b
 | .geq=>o_i5 k a k' b
theorem o_i6 {op:BinOp} {k k':IntKind} {a b:Int} {d:D} (h:evInt op k a k' b=some d) {K:D→Prop} (hK:K d):binInt op k a k' b K:=by
 unfold evInt at h
 unfold binInt
 cases op<;>simp only [o_hp,o_hq,o_hr,o_hs,o_ht,o_hu,o_hv,o_hw,o_hx,o_hy,o_hz,o_i0,o_i1,o_i2,o_i3,o_i4,o_i5,Option.ite_none_right_eq_some,Option.some.injEq] at h ⊢<;>obtain ⟨h1,h2⟩:=h<;>subst h2<;>exact ⟨h1,hK⟩
def evStr (op:BinOp) (a b:ByteArray):Option D :=
 match op with
 | .add=>if a.size+b.size≤9223372036854775807 then some (.str (a++b)) else none
 | .eql=>some (.bool (decide (a.toList=b.toList)))
 | .neq=>some (.bool (!decide (a.toList=b.toList)))
 | _=>none
theorem o_i7 {op:BinOp} {a b:ByteArray} {d:D} (h:evStr op a b=some d) {K:D→Prop} (hK:K d):binStr op a b K:=by
 have e:(a.toList==b.toList)=decide (a.toList=b.toList):=by
  by_cases h:a.toList=b.toList<;>simp [h]
 unfold evStr at h
 unfold binStr
 cases op<;>simp only [Option.ite_none_right_eq_some,Option.some.injEq,reduceCtorEq] at h ⊢
 ·obtain ⟨h1,h2⟩:=h;subst h2;exact ⟨h1,hK⟩
 ·subst h;rw [e];exact hK
 ·subst h;rw [e];exact hK
def evSlice (s:Nat) (x:V) (a b:Option Int) (mx:Option (Option Int)):Option V :=
 match x,a,b,mx with
 | .d (.sl n l),some a,some b,none=>if 0≤a∧a≤b∧b≤n then some (.d (.sl (b-a).toNat ((l.drop (a.toNat*s)).take ((b-a).toNat*s)))) else none
 | .d (.sl n l),some a,some b,some (some c)=>if 0≤a∧a≤b∧b≤c∧c≤n then (if a=0∧c=0 then some (.d .sl0) else if a=0∧b=c then some (.d (.slf b.toNat (l.take (b.toNat*s)))) else some (.d (.sl (b-a).toNat ((l.drop (a.toNat*s)).take ((b-a).toNat*s))))) else none
 | .own m s' n,some a,some b,none=>if s'=s∧0≤a∧a≤b∧b≤n then some (.row m (a.toNat*s) (b-a).toNat) else none
 | .row m o n,some a,some b,none=>if 0≤a∧a≤b∧b≤n then some (.row m (o+a.toNat*s) (b-a).toNat) else none
 | .d .nilsl,some a,some b,none=>if a=0∧b=0 then some (.d .nilsl) else none
 | _,_,_,_=>none
theorem o_i8 {s:Nat} {x:V} {a b:Option Int} {mx:Option (Option Int)} {v:V} (h:evSlice s x a b mx=some v) {K:V→Prop} (hK:K v):sliceS s x a b mx K:=by
 unfold evSlice at h
 split at h<;>first
  | (cases h;done)
  | (simp only [Option.ite_none_right_eq_some,Option.some.injEq] at h;obtain ⟨h1,h2⟩:=h;subst h2;exact ⟨h1,hK⟩)
  | (split at h
     ·rename_i h1
      refine ⟨h1,?_⟩
      split at h
      ·rename_i h2;rw [if_pos h2];cases h;exact hK
      ·rename_i h2
       rw [if_neg h2]
       split at h
       ·rename_i h3;rw [if_pos h3];cases h;exact hK
       ·rename_i h3;rw [if_neg h3];cases h;exact hK
     ·cases h)

section
variable (T:List V) (H:List (Option Ob)) (cl:FuncId→List V→List (Option Ob)→Option R4) (mt:TypeId→String→Option FuncId)
def o_i9 (c:X) (a:X) (b:X):Option R4:=match c.ev T with
  | .d (.bool t)=>some (if t then a.ev T else b.ev T,H,[],[])
  | _=>none
def o_ia (e:Nat) (z:List D):Option R4:=some (.p H.length 0,H++[some ⟨e,z.map .d⟩],[],[H.length])
def o_ib (e:Nat) (x:X):Option R4:=match (x.ev T).cells? with
  | some c=>some (.p H.length 0,H++[some ⟨e,c⟩],[],[H.length])
  | none=>none
def o_ic (z:List D) (ps:List (Nat×Nat×X)):Option R4:=match fillV (z.map .d) (ps.map fun p=>(p.1,p.2.1,p.2.2.ev T)) with
  | some c=>some (mkAgg c,H,[],[])
  | none=>none
def o_id (e:Nat) (s:Nat) (n:Nat) (z:List D) (ps:List (Nat×Nat×X)):Option R4:=match fillV (z.map .d) (ps.map fun p=>(p.1,p.2.1,p.2.2.ev T)) with
  | some c=>some (.own H.length s n,H++[some ⟨e,c⟩],[],[H.length])
  | none=>none
def o_ie (g:Bool) (s:Nat) (x:X):Option R4:=match x.ev T with
  | .p n off=>match H.getD n none with
   | some ob=>if ob.T<1000000 then (if g then (if off+s≤ob.c.length then some (mkAgg ((ob.c.drop off).take s),H,[n],[]) else none) else (if off<ob.c.length then some (ob.c.getD off .junk,H,[n],[]) else none)) else none
   | none=>none
  | .ia l off=>if g then (if off+s≤l.length then some (.d (.agg ((l.drop off).take s)),H,[],[]) else none) else (if off<l.length then some (.d (l.getD off default),H,[],[]) else none)
  | _=>none
def o_if (s:Nat) (x:X) (y:X):Option R4:=match x.ev T,(y.ev T).cells? with
  | .p n off,some c=>match H.getD n none with
   | some ob=>if ob.T<1000000 then (if c.length=s∧off+s≤ob.c.length then some (.junk,H.set n (some ⟨ob.T,setMany ob.c off c⟩),[],[n]) else none) else none
   | none=>none
  | _,_=>none
def o_ig (x:X):Option R4:=match x.ev T with
  | .p n o=>some (.p n o,H,[],[])
  | .ia l o=>some (.ia l o,H,[],[])
  | .fn (.func f) c=>some (.fn (.func f) c,H,[],[])
  | .d (.ifc t d)=>some (.d (.ifc t d),H,[],[])
  | _=>none
def o_ih (op:BinOp) (x:X) (y:X):Option R4:=match x.ev T,y.ev T with
  | .d (.int k a),.d (.int k' b)=>(evInt op k a k' b).map fun d=>(.d d,H,[],[])
  | .d (.str a),.d (.str b)=>(evStr op a b).map fun d=>(.d d,H,[],[])
  | _,_=>none
def o_ii (neg:Bool) (x:X) (y:X):Option R4:=match x.ev T,y.ev T with
  | .d (.bool a),.d (.bool b)=>some (.d (.bool (if neg then a != b else a==b)),H,[],[])
  | _,_=>none
def o_ij (op:UnOp) (x:X):Option R4:=match op,x.ev T with
  | .not,.d (.bool b)=>some (.d (.bool (!b)),H,[],[])
  | .neg,.d (.int k n)=>some (.d (.int k (k.wrap (0-n))),H,[],[])
  | .xor,.d (.int k n)=>some (.d (.int k (bits .xor k (if k.signed then -1 else k.max) n)),H,[],[])
  | _,_=>none
def o_ik (k:IntKind) (x:X):Option R4:=match x.ev T with
  | .d (.int _ n)=>some (.d (.int k (k.wrap n)),H,[],[])
  | _=>none
def o_il (x:X):Option R4:=match x.ev T with
  | .d (.str b)=>some (.d (.str b),H,[],[])
  | _=>none
def o_im (t:Nat) (x:X):Option R4:=match x.ev T with
  | .d x=>some (.d (.ifc t x),H,[],[])
  | _=>none
def o_in (e:Nat) (s:Nat) (bytes:Nat) (z:List D) (n:X) (c:X):Option R4:=match n.ev T,c.ev T with
  | .d (.int _ a),.d (.int _ b)=>if 0≤a∧a=b∧(bytes:Int)*a≤281474976710656∧a≤281474976710656∧0<s then some (.own H.length s a.toNat,H++[some ⟨e,repl a.toNat z⟩],[],[H.length]) else none
  | _,_=>none
def o_io (s:Nat) (x:X) (lo:Option X) (hi:Option X) (mx:Option X):Option R4:=(evSlice s (x.ev T) (bnd T 0 lo) (hiOf T (x.ev T) mx.isSome hi) (mx.map fun c=>intOf? (c.ev T))).map fun v=>(v,H,[],[])
def o_ip (off:Nat) (x:X):Option R4:=match x.ev T with
  | .p n o=>some (.p n (o+off),H,[],[])
  | .ia l o=>some (.ia l (o+off),H,[],[])
  | _=>none
def o_iq (g:Bool) (off:Nat) (s:Nat) (x:X):Option R4:=match x.ev T with
  | .d (.agg l)=>if g then (if off+s≤l.length then some (.d (.agg ((l.drop off).take s)),H,[],[]) else none) else (if off<l.length then some (.d (l.getD off default),H,[],[]) else none)
  | .agg l=>if g then (if off+s≤l.length then some (mkAgg ((l.drop off).take s),H,[],[]) else none) else (if off<l.length then some (l.getD off .junk,H,[],[]) else none)
  | _=>none
def o_ir (s:Nat) (x:X) (i:X):Option R4:=match x.ev T,i.ev T with
  | .d (.sl n l),.d (.int _ a)=>if 0≤a∧a<n∧a.toNat*s<l.length then some (.ia l (a.toNat*s),H,[],[]) else none
  | .own m s' n,.d (.int _ a)=>if 0≤a∧a<n∧s'=s then some (.p m (a.toNat*s),H,[],[]) else none
  | .row m o n,.d (.int _ a)=>if 0≤a∧a<n then some (.p m (o+a.toNat*s),H,[],[]) else none
  | _,_=>none
def o_is (x:X) (i:Nat):Option R4:=match x.ev T with
  | .tup l=>if i<l.length then some (l.getD i .junk,H,[],[]) else none
  | _=>none
def o_it (f:X) (xs:List X):Option R4:=match f.ev T with
  | .fn (.func g) caps=>cl g (xs.map (X.ev T)++caps) H
  | _=>none
def o_iu (r:X) (name:String) (xs:List X):Option R4:=match r.ev T with
  | .d (.ifc t d)=>match mt t name with
   | some g=>cl g (.d d::xs.map (X.ev T)) H
   | none=>none
  | _=>none
def o_iv (x:X):Option R4:=match lenV (x.ev T) with
  | some n=>some (.d (.int .i64 n),H,[],[])
  | none=>none
def o_iw (x:X):Option R4:=match x.ev T with
  | .d (.str s)=>some (.d (.int .i64 s.size),H,[],[])
  | _=>none
def o_ix (mx:Bool) (xs:List X):Option R4:=match minmaxI mx (xs.map (X.ev T)) with
  | some (k,n)=>some (.d (.int k n),H,[],[])
  | none=>none
def o_iy (e:Nat) (s:Nat) (bytes:Nat) (x:X) (y:X):Option R4:=match srcV s H (y.ev T) with
  | some (k,c,rd)=>match x.ev T with
   | .d .nilsl=>if k=0 then (if c.length=0 then some (.d .nilsl,H,rd,[]) else none) else (if 0<s∧0<bytes∧c.length=k*s∧k*bytes≤140737488355328 then some (.own H.length s k,H++[some ⟨e,c⟩],rd,[H.length]) else none)
   | .d .sl0=>if k=0 then (if c.length=0 then some (.d .sl0,H,rd,[]) else none) else (if 0<s∧0<bytes∧c.length=k*s∧k*bytes≤140737488355328 then some (.own H.length s k,H++[some ⟨e,c⟩],rd,[H.length]) else none)
   | .d (.slf q l)=>if 0<k∧0<s∧0<bytes∧l.length=q*s∧c.length=k*s∧(q+k)*bytes≤140737488355328 then some (.own H.length s (q+k),H++[some ⟨e,l.map .d++c⟩],rd,[H.length]) else none
   | .own n s' q=>match H.getD n none with
    | some ob=>if s'=s∧0<s∧0<bytes∧ob.T=e∧ob.c.length=q*s∧c.length=k*s∧(q+k)*bytes≤140737488355328 then some (.own H.length s (q+k),H.set n none++[some ⟨e,ob.c++c⟩],rd,[n,H.length]) else none
    | none=>none
   | _=>none
  | none=>none
def o_iz (x:X):Option R4:=match x.ev T with
  | .d .nilsl=>some (.d (.int .i64 0),H,[],[])
  | _=>none
def o_j0 (s:Nat) (x:X) (y:X):Option R4:=match srcV s H (y.ev T),dstV s (x.ev T) with
  | some (k,c,rd),some (n,off,q)=>match H.getD n none with
   | some ob=>if ob.T<1000000 then (if k≤q∧c.length=k*s∧off+k*s≤ob.c.length then some (.d (.int .i64 k),H.set n (some ⟨ob.T,setMany ob.c off c⟩),rd,[n]) else none) else none
   | none=>none
  | _,_=>none
def o_j1 (n:Nat) (s:Nat) (x:X) (i:X):Option R4:=match x.ev T,i.ev T with
  | .p m o,.d (.int _ a)=>if 0≤a∧a<n then some (.p m (o+a.toNat*s),H,[],[]) else none
  | .ia l o,.d (.int _ a)=>if 0≤a∧a<n then some (.ia l (o+a.toNat*s),H,[],[]) else none
  | _,_=>none
def o_j2 (x:X) (i:X):Option R4:=match x.ev T,i.ev T with
  | .d (.str b),.d (.int _ a)=>if 0≤a∧a.toNat<b.size then some (.d (.int .u8 (b.data.toList.getD a.toNat 0).toNat),H,[],[]) else none
  | _,_=>none
def o_j3 (x:X) (lo:Option X) (hi:Option X):Option R4:=match x.ev T with
  | .d (.str s)=>match bnd T 0 lo,bnd T s.size hi with
   | some a,some b=>if 0≤a∧a≤b∧b≤s.size then some (.d (.str (s.extract a.toNat b.toNat)),H,[],[]) else none
   | _,_=>none
  | _=>none
def o_j4 (l:List D) (n:Nat) (s:Nat) (i:X):Option R4:=match i.ev T with
  | .d (.int _ a)=>if 0≤a∧a<n then some (.ia l (a.toNat*s),H,[],[]) else none
  | _=>none
def o_j5 (x:X):Option R4:=match srcV 1 H (x.ev T) with
  | some (k,c,rd)=>match intsV c with
   | some ns=>if c.length=k then some (.d (.str (strOf ns)),H,rd,[]) else none
   | none=>none
  | none=>none
def o_j6 (n:Nat) (s:Nat) (x:X) (lo:Option X) (hi:Option X):Option R4:=match x.ev T,bnd T 0 lo,bnd T n hi with
  | .p m o,some a,some b=>if 0≤a∧a≤b∧b≤n∧n≤140737488355328 then some (.row m (o+a.toNat*s) (b-a).toNat,H,[],[]) else none
  | _,_,_=>none
def o_j7 (neg:Bool) (x:X):Option R4:=match x.ev T with
  | .d .nilsl=>some (.d (.bool (!neg)),H,[],[])
  | .d (.sl n _)=>if 0<n then some (.d (.bool neg),H,[],[]) else none
  | .own _ _ _=>some (.d (.bool neg),H,[],[])
  | .d .sle=>some (.d (.bool neg),H,[],[])
  | .row _ _ _=>some (.d (.bool neg),H,[],[])
  | _=>none
def o_j8 (neg:Bool) (x:X):Option R4:=match x.ev T with
  | .d .nilifc=>some (.d (.bool (!neg)),H,[],[])
  | .d (.ifc _ _)=>some (.d (.bool neg),H,[],[])
  | _=>none
def o_j9 (neg:Bool) (x:X):Option R4:=match x.ev T with
  | .d .nilp=>some (.d (.bool (!neg)),H,[],[])
  | .p _ _=>some (.d (.bool neg),H,[],[])
  | .ia _ _=>some (.d (.bool neg),H,[],[])
  | _=>none
def o_ja (neg:Bool) (ks:List Nat) (x:X) (y:X):Option R4:=match x.ev T,y.ev T with
  | .d (.agg l),.d (.agg r)=>match eqKs ks l r with
   | some b=>some (.d (.bool (if neg then !b else b)),H,[],[])
   | none=>none
  | _,_=>none
def o_jb (e:Nat) (s:Nat) (bytes:Nat) (z:List D) (x:X) (y:X):Option R4:=match x.ev T,y.ev T with
  | .d .nilsl,.d (.int .i64 k)=>if 0<k∧0<s∧0<bytes∧k*bytes≤140737488355328 then some (.own H.length s k.toNat,H++[some ⟨e,repl k.toNat z⟩],[],[H.length]) else none
  | _,_=>none
def o_jc (s:Nat) (x:X) (hi:X):Option R4:=match x.ev T,hi.ev T with
  | .own n s' q,.d (.int _ b)=>match H.getD n none with
   | some ob=>if s'=s∧0≤b∧b≤q∧ob.T<1000000 then some (.own n s b.toNat,H.set n (some ⟨ob.T,ob.c.take (b.toNat*s)⟩),[],[n]) else none
   | none=>none
  | _,_=>none
def o_jd (n:Nat) (s:Nat) (q:Bool) (x:X) (i:X):Option R4:=match x.ev T,i.ev T with
  | .d (.agg l),.d (.int _ a)=>if q then (if 0≤a∧a<n∧a.toNat*s+s≤l.length then some (.d (.agg ((l.drop (a.toNat*s)).take s)),H,[],[]) else none) else (if 0≤a∧a<n∧a.toNat*s<l.length then some (.d (l.getD (a.toNat*s) default),H,[],[]) else none)
  | .agg l,.d (.int _ a)=>if q then (if 0≤a∧a<n∧a.toNat*s+s≤l.length then some (mkAgg ((l.drop (a.toNat*s)).take s),H,[],[]) else none) else (if 0≤a∧a<n∧a.toNat*s<l.length then some (l.getD (a.toNat*s) .junk,H,[],[]) else none)
  | _,_=>none
def o_je (t:Nat):Option R4:=some (.p H.length 0,H++[some ⟨t,[.junk]⟩],[],[H.length])
def o_jf (t:Nat):Option R4:=some (.mp H.length,H++[some ⟨t,[]⟩],[],[H.length])
def o_jg  : Option R4:=some (.mp H.length,H++[some ⟨1000002,[]⟩],[],[H.length])
def o_jh (x:X) (k:X):Option R4:=match x.ev T,k.ev T with
  | .mp n,.d (.str s)=>match H.getD n none with
   | some ob=>if ob.T=1000002 then (match V.toDs ob.c with
    | some ds=>(match sfind s ds with
     | some (some i)=>some (.tup [.d (sgetD ds i),.d (.bool true)],H,[n],[])
     | some none=>some (.tup [.d (.int .i64 0),.d (.bool false)],H,[n],[])
     | none=>none)
    | none=>none) else none
   | none=>none
  | _,_=>none
def o_ji (x:X) (k:X) (v:X):Option R4:=match x.ev T,k.ev T,v.ev T with
  | .mp n,.d (.str s),.d (.int .i64 j)=>match H.getD n none with
   | some ob=>if ob.T=1000002 then (match V.toDs ob.c with
    | some ds=>(match sfind s ds with
     | some none=>if ds.length%2=0 then some (.junk,H.set n (some ⟨1000002,(ds++[D.str s,D.int .i64 j]).map V.d⟩),[],[n]) else none
     | _=>none)
    | none=>none) else none
   | none=>none
  | _,_,_=>none
def o_jj (z:List V) (ps:List (Nat×Nat×X)):Option R4:=match fillV z (ps.map fun p=>(p.1,p.2.1,p.2.2.ev T)) with
  | some c=>some (mkAgg c,H,[],[])
  | none=>none
def o_jk (t:Nat) (ks:List Nat) (vw:Nat) (g:Bool) (z:List D) (x:X) (k:X):Option R4:=match x.ev T,k.ev T with
  | .mp n,.d (.agg kl)=>match H.getD n none with
   | some ob=>if ob.T=t∧kl.length=ks.length then (match V.toDs ob.c with
    | some ds=>match mlook ks vw g z kl ds with
     | some y=>some (.d y,H,[n],[])
     | none=>none
    | none=>none) else none
   | none=>none
  | _,_=>none
def o_jl (t:Nat) (ks:List Nat) (vw:Nat) (g:Bool) (x:X) (k:X) (v:X):Option R4:=match x.ev T,k.ev T,v.ev T with
  | .mp n,.d (.agg kl),.d y=>match H.getD n none with
   | some ob=>if ob.T=t∧kl.length=ks.length∧y.isAgg=g then (match V.toDs ob.c with
    | some ds=>if y.cells.length=vw∧ds.length%(ks.length+vw)=0 then (match mset ks vw kl y.cells ds with
     | some ds'=>some (.junk,H.set n (some ⟨t,ds'.map .d⟩),[],[n])
     | none=>none) else none
    | none=>none) else none
   | none=>none
  | _,_,_=>none
def o_jm (t:Nat) (ks:List Nat) (vw:Nat) (g:Bool) (z:List D) (x:X) (k:X):Option R4:=match x.ev T,k.ev T with
  | .mp n,.d (.agg kl)=>match H.getD n none with
   | some ob=>if ob.T=t∧kl.length=ks.length then (match V.toDs ob.c with
    | some ds=>if ds.length%(ks.length+vw)=0 then (match mentD ks vw g z kl ds with
     | some (y,j,ds')=>some (.tup [.d y,.d (.int .i64 j)],H.set n (some ⟨t,ds'.map .d⟩),[],[n])
     | none=>none) else none
    | none=>none) else none
   | none=>none
  | _,_=>none
def o_jn (t:Nat) (ks:List Nat) (vw:Nat) (g:Bool) (x:X) (s:X) (v:X):Option R4:=match x.ev T,s.ev T,v.ev T with
  | .mp n,.d (.int .i64 j),.d y=>match H.getD n none with
   | some ob=>if ob.T=t∧y.isAgg=g then (match V.toDs ob.c with
    | some ds=>if y.cells.length=vw∧0≤j∧j.toNat<ds.length/(ks.length+vw) then some (.junk,H.set n (some ⟨t,(estoD ks.length vw j.toNat y.cells ds).map .d⟩),[],[n]) else none
    | none=>none) else none
   | none=>none
  | _,_,_=>none
def o_jo (t:Nat) (w:Nat) (x:X):Option R4:=match x.ev T with
  | .mp n=>match H.getD n none with
   | some ob=>if ob.T=t then some (.p H.length 0,H++[some ⟨1000000,[.mp n,.d (.int .i64 (ob.c.length/w:Nat))]⟩],[n],[H.length]) else none
   | none=>none
  | _=>none
def o_jp (x:X):Option R4:=match x.ev T with
  | .p n 0=>match H.getD n none with
   | some ob=>match iterV ob with
    | some (k,N,l)=>match H.getD k none with
     | some obk=>if 1000000<obk.T∧0<tagK obk.T∧obk.c.length/(tagK obk.T+tagV obk.T)=N then (match (List.range N).filter (fun i=>!l.contains i) with
      | []=>some (.tup [.d (.bool false)],H,[k,n],[])
      | [i]=>some (.tup [.d (.bool true),.junk,.junk],H.set n (some ⟨1000000,ob.c++[.d (.int .i64 i)]⟩),[k],[n])
      | _=>none) else none
     | none=>none
    | none=>none
   | none=>none
  | _=>none
def o_jq (x:X):Option R4:=match x.ev T with
  | .p n 0=>match H.getD n none with
   | some ob=>match iterV ob with
    | some (k,N,l)=>match H.getD k none with
     | some obk=>match V.toDs obk.c,l.getLast? with
      | some ds,some i=>if 1000000<obk.T∧0<tagK obk.T∧ds.length/(tagK obk.T+tagV obk.T)=N∧i<N∧(tagG obk.T=true∨tagV obk.T=1) then some (.tup [.d (.agg ((ds.drop (i*(tagK obk.T+tagV obk.T))).take (tagK obk.T))),.d (glD (tagG obk.T) ((ds.drop (i*(tagK obk.T+tagV obk.T)+tagK obk.T)).take (tagV obk.T)))],H,[k,n],[]) else none
      | _,_=>none
     | none=>none
    | none=>none
   | none=>none
  | _=>none
def A.ev:A→Option R4
 | .mv x=>some (x.ev T,H,[],[])
 | .pick c a b=>o_i9 T H c a b
 | .new e z=>o_ia H e z
 | .box e x=>o_ib T H e x
 | .build z ps=>o_ic T H z ps
 | .bsl e s n z ps=>o_id T H e s n z ps
 | .load g s x=>o_ie T H g s x
 | .store s x y=>o_if T H s x y
 | .chk x=>o_ig T H x
 | .bin op x y=>o_ih T H op x y
 | .beq neg x y=>o_ii T H neg x y
 | .un op x=>o_ij T H op x
 | .conv k x=>o_ik T H k x
 | .cstr x=>o_il T H x
 | .ifc t x=>o_im T H t x
 | .mkf f cs=>some (.fn f (cs.map (X.ev T)),H,[],[])
 | .mksl e s bytes z n c=>o_in T H e s bytes z n c
 | .slice s x lo hi mx=>o_io T H s x lo hi mx
 | .fa off x=>o_ip T H off x
 | .fld g off s x=>o_iq T H g off s x
 | .ix s x i=>o_ir T H s x i
 | .ext x i=>o_is T H x i
 | .call f xs=>cl f (xs.map (X.ev T)) H
 | .callv f xs=>o_it T H cl f xs
 | .inv r name xs=>o_iu T H cl mt r name xs
 | .len x=>o_iv T H x
 | .lens x=>o_iw T H x
 | .mm mx xs=>o_ix T H mx xs
 | .app e s bytes x y=>o_iy T H e s bytes x y
 | .capn x=>o_iz T H x
 | .cpy s x y=>o_j0 T H s x y
 | .bsl0=>some (.d .sl0,H,[],[])
 | .ixa n s x i=>o_j1 T H n s x i
 | .gstr x i=>o_j2 T H x i
 | .sstr x lo hi=>o_j3 T H x lo hi
 | .gix l n s i=>o_j4 T H l n s i
 | .bstr x=>o_j5 T H x
 | .sla n s x lo hi=>o_j6 T H n s x lo hi
 | .snl neg x=>o_j7 T H neg x
 | .inl neg x=>o_j8 T H neg x
 | .pnl neg x=>o_j9 T H neg x
 | .aeq neg ks x y=>o_ja T H neg ks x y
 | .appz e s bytes z x y=>o_jb T H e s bytes z x y
 | .cut s x hi=>o_jc T H s x hi
 | .ixv n s q x i=>o_jd T H n s q x i
 | .newj t=>o_je H t
 | .mkm t=>o_jf H t
 | .mkS=>o_jg H
 | .mgS x k=>o_jh T H x k
 | .mpS x k v=>o_ji T H x k v
 | .bldj z ps=>o_jj T H z ps
 | .mget t ks vw g z x k=>o_jk T H t ks vw g z x k
 | .mput t ks vw g x k v=>o_jl T H t ks vw g x k v
 | .ment t ks vw g z x k=>o_jm T H t ks vw g z x k
 | .esto t ks vw g x s v=>o_jn T H t ks vw g x s v
 | .mrng t w x=>o_jo T H t w x
 | .mnx x=>o_jp T H x
 | .mety x=>o_jq T H x
 | .bad=>none
end
set_option maxHeartbeats 4000000 in
theorem A.ev_ok {P:Program} {T:List V} {H:List (Option Ob)} {cl:FuncId→List V→List (Option Ob)→Option R4} {mt:TypeId→String→Option FuncId}
  (hcl:∀f args H r,cl f args H=some r→∀K,R4.then r K→CallS P f args H K) (hmt:∀t name g,mt t name=some g→MethOK P t name g) (a:A) (r:R4) (h:A.ev T H cl mt a=some r) (K:V→List (Option Ob)→List Nat→List Nat→Prop) (hK:R4.then r K):A.step P T H K a:=by
 unfold R4.then at hK
 cases a
 case mnx x =>
  simp only [A.ev,o_i9,o_ia,o_ib,o_ic,o_id,o_ie,o_if,o_ig,o_ih,o_ii,o_ij,o_ik,o_il,o_im,o_in,o_io,o_ip,o_iq,o_ir,o_is,o_it,o_iu,o_iv,o_iw,o_ix,o_iy,o_iz,o_j0,o_j1,o_j2,o_j3,o_j4,o_j5,o_j6,o_j7,o_j8,o_j9,o_ja,o_jb,o_jc,o_jd,o_je,o_jf,o_jg,o_jh,o_ji,o_jj,o_jk,o_jl,o_jm,o_jn,o_jo,o_jp,o_jq] at h
  simp only [A.step]
  repeat' (split at h)
  all_goals first
   | (cases h;done)
   | skip
  all_goals first
   | (rename_i hc x0 i hf
      cases h
      have hm:∀z,z∈[i]→_:=fun z hz=>List.mem_filter.1 (hf.symm▸hz)
      have hs:∀z,_→z∈[i]:=fun z hz=>hf▸List.mem_filter.2 hz
      simp only [*]
      refine ⟨by first | trivial | exact hc.1,by first | trivial | exact hc.2 | exact ⟨trivial,trivial⟩ | exact ⟨trivial,hc.2.2⟩,fun j hj hl=>?_,fun hall=>?_⟩
      ·have:=hs j ⟨List.mem_range.2 (by first | exact hj | exact hc.2.2▸hj),by simpa using hl⟩
       rw [List.mem_singleton] at this;subst this;first | exact hK | trivial
      ·have h2:=hm i (List.mem_singleton.2 rfl)
       exact absurd (hall i (by first | exact List.mem_range.1 h2.1 | exact hc.2.2▸List.mem_range.1 h2.1)) (by simpa using h2.2))
   | (rename_i hc x0 hf
      cases h
      have hs:∀z,_→z∈([]:List Nat):=fun z hz=>hf▸List.mem_filter.2 hz
      simp only [*]
      refine ⟨by first | trivial | exact hc.1,by first | trivial | exact hc.2 | exact ⟨trivial,trivial⟩ | exact ⟨trivial,hc.2.2⟩,fun j hj hl=>?_,fun hall=>?_⟩
      ·exact absurd (hs j ⟨List.mem_range.2 (by first | exact hj | exact hc.2.2▸hj),by simpa using hl⟩) (by simp)
      ·first | exact hK | trivial)
 all_goals simp only [A.ev,o_i9,o_ia,o_ib,o_ic,o_id,o_ie,o_if,o_ig,o_ih,o_ii,o_ij,o_ik,o_il,o_im,o_in,o_io,o_ip,o_iq,o_ir,o_is,o_it,o_iu,o_iv,o_iw,o_ix,o_iy,o_iz,o_j0,o_j1,o_j2,o_j3,o_j4,o_j5,o_j6,o_j7,o_j8,o_j9,o_ja,o_jb,o_jc,o_jd,o_je,o_jf,o_jg,o_jh,o_ji,o_jj,o_jk,o_jl,o_jm,o_jn,o_jo,o_jp,o_jq] at h
 all_goals simp only [A.step]
 all_goals first
  | (cases h;done)
  | (cases h;exact hK)
  | exact hcl _ _ _ _ h K hK
  | skip
 all_goals (repeat' (split at h))<;>first
  | (cases h;done)
  | (cases h;simp_all [need];done)
  | exact hcl _ _ _ _ h K hK
  | (simp_all [need];done)
  | (simp_all;exact hcl _ _ _ _ h K hK)
  | (simp_all;exact ⟨_,hmt _ _ _ (by assumption),hcl _ _ _ _ h K hK⟩)
  | (obtain ⟨d,hd,rfl⟩:=Option.map_eq_some_iff.1 h;exact o_i8 hd hK)
  | (obtain ⟨d,hd,rfl⟩:=Option.map_eq_some_iff.1 h;simp only [*];exact o_i6 hd hK)
  | (obtain ⟨d,hd,rfl⟩:=Option.map_eq_some_iff.1 h;simp only [*];exact o_i7 hd hK)
  | (rename_i hx hy hc;cases h;rw [hx,hy];exact ⟨hc,hK⟩)
  | (simp only [*];exact hcl _ _ _ _ h K hK)
  | (simp only [*];exact ⟨_,hmt _ _ _ (by assumption),hcl _ _ _ _ h K hK⟩)

def bindL {α β:Type}:List α→(α→Option (List β))→Option (List β)
 | [],_=>some []
 | a::l,f=>match f a with
  | none=>none
  | some x=>match bindL l f with
   | none=>none
   | some y=>some (x++y)
theorem o_jr {α β:Type} {f:α→Option (List β)}:∀{l:List α} {ys:List β},bindL l f=some ys→∀a∈l,∃x,f a=some x∧∀b∈x,b∈ys
 | [],ys,h,a,ha=>absurd ha (by simp)
 | a0::l,ys,h,a,ha=>by
  unfold bindL at h
  split at h
  ·cases h
  ·rename_i x hx
   split at h
   ·cases h
   ·rename_i y hy
    cases h
    rcases List.mem_cons.1 ha with rfl | ha
    ·exact ⟨x,hx,fun b hb=>List.mem_append.2 (.inl hb)⟩
    ·obtain ⟨x',h1,h2⟩:=o_jr hy a ha
     exact ⟨x',h1,fun b hb=>List.mem_append.2 (.inr (h2 b hb))⟩
def A.evs (T:List V) (H:List (Option Ob)) (cl:FuncId→List V→List (Option Ob)→Option R4) (mt:TypeId→String→Option FuncId):A→Option (List R4)
 | .mnx x=>match x.ev T with
  | .p n 0=>match H.getD n none with
   | some ob=>match iterV ob with
    | some (k,N,l)=>match H.getD k none with
     | some obk=>if 1000000<obk.T∧0<tagK obk.T∧obk.c.length/(tagK obk.T+tagV obk.T)=N then (match (List.range N).filter (fun i=>!l.contains i) with
      | []=>some [(.tup [.d (.bool false)],H,[k,n],[])]
      | i::is=>some ((i::is).map fun (i:Nat)=>(.tup [.d (.bool true),.junk,.junk],H.set n (some ⟨1000000,ob.c++[.d (.int .i64 i)]⟩),[k],[n]))) else none
     | none=>none
    | none=>none
   | none=>none
  | _=>none
 | a=>(A.ev T H cl mt a).map fun r=>[r]
set_option maxHeartbeats 4000000 in
theorem A.evs_ok {P:Program} {T:List V} {H:List (Option Ob)} {cl:FuncId→List V→List (Option Ob)→Option R4} {mt:TypeId→String→Option FuncId}
  (hcl:∀f args H r,cl f args H=some r→∀K,R4.then r K→CallS P f args H K) (hmt:∀t name g,mt t name=some g→MethOK P t name g) (a:A) (rs:List R4) (h:A.evs T H cl mt a=some rs) (K:V→List (Option Ob)→List Nat→List Nat→Prop) (hK:∀r∈rs,R4.then r K):A.step P T H K a:=by
 cases a
 case mnx x =>
  simp only [A.evs] at h
  simp only [A.step]
  repeat' (split at h)
  all_goals first
   | (cases h;done)
   | skip
  all_goals first
   | (rename_i hc x0 hf
      cases h
      have hK:=hK _ (List.mem_singleton.2 rfl)
      unfold R4.then at hK
      have hs:∀z,_→z∈([]:List Nat):=fun z hz=>hf▸List.mem_filter.2 hz
      simp only [*]
      refine ⟨by first | trivial | exact hc.1,by first | trivial | exact hc.2 | exact ⟨trivial,trivial⟩ | exact ⟨trivial,hc.2.2⟩,fun j hj hl=>?_,fun hall=>?_⟩
      ·exact absurd (hs j ⟨List.mem_range.2 (by first | exact hj | exact hc.2.2▸hj),by simpa using hl⟩) (by simp)
      ·first | exact hK | trivial)
   | (rename_i hc x0 i is hf
      cases h
      have hm:∀z,z∈i::is→_:=fun z hz=>List.mem_filter.1 (hf.symm▸hz)
      have hs:∀z,_→z∈i::is:=fun z hz=>hf▸List.mem_filter.2 hz
      simp only [*]
      refine ⟨by first | trivial | exact hc.1,by first | trivial | exact hc.2 | exact ⟨trivial,trivial⟩ | exact ⟨trivial,hc.2.2⟩,fun j hj hl=>?_,fun hall=>?_⟩
      ·have h2:=hs j ⟨List.mem_range.2 (by first | exact hj | exact hc.2.2▸hj),by simpa using hl⟩
       have h3:=hK _ (List.mem_map.2 ⟨j,h2,rfl⟩)
       unfold R4.then at h3
       first | exact h3 | trivial
      ·have h2:=hm i (List.mem_cons_self ..)
       exact absurd (hall i (by first | exact List.mem_range.1 h2.1 | exact hc.2.2▸List.mem_range.1 h2.1)) (by simpa using h2.2))
 all_goals
  simp only [A.evs,Option.map_eq_some_iff] at h
  obtain ⟨r,h1,h2⟩:=h
  cases h2
  exact A.ev_ok hcl hmt _ r h1 K (hK r (List.mem_singleton.2 rfl))

mutual
def D.beq:D→D→Bool
 | .int k n,.int k' n'=>decide (k=k')&&decide (n=n')
 | .bool a,.bool b=>decide (a=b)
 | .str a,.str b=>decide (a=b)
 | .agg l,.agg r=>D.beqs l r
 | .sl n l,.sl m r=>Nat.beq n m&&D.beqs l r
 | .slf n l,.slf m r=>Nat.beq n m&&D.beqs l r
 | .nilsl,.nilsl | .sl0,.sl0 | .sle,.sle | .nilifc,.nilifc | .nilp,.nilp | .nilfn,.nilfn=>true
 | .ifc t d,.ifc u e=>Nat.beq t u&&D.beq d e
 | .ptr l o,.ptr r p=>Nat.beq o p&&D.beqs l r
 | _,_=>false
def D.beqs:List D→List D→Bool
 | [],[]=>true
 | a::l,b::r=>D.beq a b&&D.beqs l r
 | _,_=>false
end
mutual
theorem D.beq_ok:∀(a b:D),D.beq a b=true→a=b
 | .int _ _,b,h=>by cases b<;>simp_all [D.beq]
 | .bool _,b,h=>by cases b<;>simp_all [D.beq]
 | .str _,b,h=>by cases b<;>simp_all [D.beq]
 | .agg l,b,h=>by
  cases b with
  | agg r=>rw [D.beqs_ok l r (by simpa only [D.beq] using h)]
  | _=>simp [D.beq] at h
 | .sl n l,b,h=>by
  cases b with
  | sl m r=>simp only [D.beq,Bool.and_eq_true] at h;rw [D.beqs_ok l r h.2,Nat.eq_of_beq_eq_true h.1]
  | _=>simp [D.beq] at h
 | .slf n l,b,h=>by
  cases b with
  | slf m r=>simp only [D.beq,Bool.and_eq_true] at h;rw [D.beqs_ok l r h.2,Nat.eq_of_beq_eq_true h.1]
  | _=>simp [D.beq] at h
 | .nilsl,b,h=>by cases b<;>simp_all [D.beq]
 | .sl0,b,h=>by cases b<;>simp_all [D.beq]
 | .sle,b,h=>by cases b<;>simp_all [D.beq]
 | .nilifc,b,h=>by cases b<;>simp_all [D.beq]
 | .nilp,b,h=>by cases b<;>simp_all [D.beq]
 | .nilfn,b,h=>by cases b<;>simp_all [D.beq]
 | .ifc t d,b,h=>by
  cases b with
  | ifc u e=>simp only [D.beq,Bool.and_eq_true] at h;rw [D.beq_ok d e h.2,Nat.eq_of_beq_eq_true h.1]
  | _=>simp [D.beq] at h
 | .ptr l o,b,h=>by
  cases b with
  | ptr r p=>simp only [D.beq,Bool.and_eq_true] at h;rw [D.beqs_ok l r h.2,Nat.eq_of_beq_eq_true h.1]
  | _=>simp [D.beq] at h
theorem D.beqs_ok:∀(l r:List D),D.beqs l r=true→l=r
 | [],r,h=>by cases r<;>simp_all [D.beqs]
 | a::l,r,h=>by
  cases r with
  | nil=>simp [D.beqs] at h
  | cons b r=>simp only [D.beqs,Bool.and_eq_true] at h;rw [D.beq_ok a b h.1,D.beqs_ok l r h.2]
end
mutual
def V.beq:V→V→Bool
 | .d a,.d b=>D.beq a b
 | .agg l,.agg r=>V.beqs l r
 | .tup l,.tup r=>V.beqs l r
 | .p n o,.p m q=>Nat.beq n m&&Nat.beq o q
 | .row n o k,.row m q j=>Nat.beq n m&&Nat.beq o q&&Nat.beq k j
 | .own n o k,.own m q j=>Nat.beq n m&&Nat.beq o q&&Nat.beq k j
 | .mp n,.mp m=>Nat.beq n m
 | .junk,.junk=>true
 | _,_=>false
def V.beqs:List V→List V→Bool
 | [],[]=>true
 | a::l,b::r=>V.beq a b&&V.beqs l r
 | _,_=>false
end
mutual
theorem V.beq_ok:∀(a b:V),V.beq a b=true→a=b
 | .d x,b,h=>by
  cases b with
  | d y=>rw [D.beq_ok x y (by simpa only [V.beq] using h)]
  | _=>simp [V.beq] at h
 | .agg l,b,h=>by
  cases b with
  | agg r=>rw [V.beqs_ok l r (by simpa only [V.beq] using h)]
  | _=>simp [V.beq] at h
 | .tup l,b,h=>by
  cases b with
  | tup r=>rw [V.beqs_ok l r (by simpa only [V.beq] using h)]
  | _=>simp [V.beq] at h
 | .p _ _,b,h=>by cases b<;>simp_all [V.beq]
 | .row _ _ _,b,h=>by cases b<;>simp_all [V.beq]
 | .own _ _ _,b,h=>by cases b<;>simp_all [V.beq]
 | .mp _,b,h=>by cases b<;>simp_all [V.beq]
 | .fn _ _,b,h=>by cases b<;>simp [V.beq] at h
 | .junk,b,h=>by cases b<;>simp_all [V.beq]
theorem V.beqs_ok:∀(l r:List V),V.beqs l r=true→l=r
 | [],r,h=>by cases r<;>simp_all [V.beqs]
 | a::l,r,h=>by
  cases r with
  | nil=>simp [V.beqs] at h
  | cons b r=>simp only [V.beqs,Bool.and_eq_true] at h;rw [V.beq_ok a b h.1,V.beqs_ok l r h.2]
end
def obsB:List Ob→List Ob→Bool
 | [],[]=>true
 | a::l,b::r=>Nat.beq a.T b.T&&V.beqs a.c b.c&&obsB l r
 | _,_=>false
theorem o_js:∀{l r:List Ob},obsB l r=true→l=r
 | [],[],_=>rfl
 | ⟨t,c⟩::l,⟨u,d⟩::r,h=>by
  simp only [obsB,Bool.and_eq_true] at h
  rw [Nat.eq_of_beq_eq_true h.1.1,V.beqs_ok _ _ h.1.2,o_js h.2]
 | [],_::_,h=>by simp [obsB] at h
 | _::_,[],h=>by simp [obsB] at h

mutual
def V.names:V→List Nat
 | .d _ | .junk=>[]
 | .agg l | .tup l | .fn _ l=>V.namess l
 | .p n _ | .row n _ _ | .own n _ _ | .mp n=>[n]
def V.namess:List V→List Nat
 | []=>[]
 | x::l=>x.names++V.namess l
end

mutual
def V.strd (n:Nat):V→Nat
 | .own k s _=>if k=n then s else 0
 | .agg l | .tup l | .fn _ l=>V.strds n l
 | _=>0
def V.strds (n:Nat):List V→Nat
 | []=>0
 | x::l=>match x.strd n with
  | 0=>V.strds n l
  | s=>s
end
def strdH (n:Nat):List (Option Ob)→Nat
 | []=>1
 | some ob::l=>(match V.strds n ob.c with
  | 0=>strdH n l
  | s=>s)
 | none::l=>strdH n l
def fz1 (n:Nat) (r:List V×List (Option Ob)):List V×List (Option Ob):=match r.2.getD n none with
 | some ob=>match Nat.blt ob.T 1000000,V.toDs ob.c with
  | true,some ds =>
   let s:=match V.strds n r.1 with
    | 0=>strdH n r.2
    | s=>s
   (r.1.map (V.frz n s ds),frzH n s ds r.2)
  | _,_=>r
 | none=>r
def fzAll:List Nat→List V×List (Option Ob)→List V×List (Option Ob)
 | [],r=>r
 | n::l,r=>fzAll l (fz1 n r)
theorem o_jt {P:Program} {L:Nat} {c:C} {Q:Exit→List V→List (Option Ob)→Prop} (n:Nat) (r:List V×List (Option Ob)) (h:AW P L c Q (fz1 n r).1 (fz1 n r).2):AW P L c Q r.1 r.2:=by
 unfold fz1 at h
 split at h
 ·rename_i ob hn
  split at h
  ·rename_i ds hT hd
   exact AW.freeze n _ ob ds hn (V.toDs_eq hd) h hT
  ·exact h
 ·exact h
theorem o_ju {P:Program} {L:Nat} {c:C} {Q:Exit→List V→List (Option Ob)→Prop}:∀(l:List Nat) (r:List V×List (Option Ob)),AW P L c Q (fzAll l r).1 (fzAll l r).2→AW P L c Q r.1 r.2
 | [],r,h=>h
 | n::l,r,h=>o_jt n r (o_ju l _ h)
def V.norm1:V→V
 | .agg l=>mkAgg l
 | x=>x
def V.norm:V→V
 | .agg l=>mkAgg l
 | .tup l=>.tup (l.map V.norm1)
 | x=>x
theorem V.norm1_sub (x:V):Sub1 x x.norm1:=fun m v h=>by
 cases x with
 | agg l =>
  unfold V.rep at h
  obtain ⟨vs,rfl,h1,h2⟩:=h
  exact o_3 h2 h1
 | _=>exact h
theorem V.norms_sub:∀(l:List V) (m:Mem) (vs:List Value),V.reps m l vs→V.reps m (l.map V.norm1) vs
 | [],m,vs,h=>h
 | x::l,m,vs,h=>by
  unfold V.reps at h
  obtain ⟨v,r,rfl,h1,h2⟩:=h
  rw [List.map_cons]
  unfold V.reps
  exact ⟨v,r,rfl,V.norm1_sub x m v h1,V.norms_sub l m r h2⟩
theorem V.norm_sub (x:V):Sub1 x x.norm:=fun m v h=>by
 cases x with
 | agg l=>exact V.norm1_sub _ m v h
 | tup l =>
  unfold V.norm
  unfold V.rep at h ⊢
  obtain ⟨vs,h1,h2⟩:=h
  exact ⟨vs,h1,V.norms_sub l m vs h2⟩
 | _=>exact h

def forceN {R:Type}:Nat→(Nat→R)→R
 | 0,f=>f 0
 | n+1,f=>f (n+1)
theorem o_jv {R:Type} (n:Nat) (f:Nat→R):forceN n f=f n:=by cases n<;>rfl
def forceI {R:Type}:Int→(Int→R)→R
 | .ofNat n,f=>forceN n fun m=>f (.ofNat m)
 | .negSucc n,f=>forceN n fun m=>f (.negSucc m)
theorem o_jw {R:Type} (n:Int) (f:Int→R):forceI n f=f n:=by cases n<;>simp only [forceI,o_jv]
mutual
def D.force {R:Type}:D→(D→R)→R
 | .int k n,f=>forceI n fun m=>f (.int k m)
 | .bool true,f=>f (.bool true)
 | .bool false,f=>f (.bool false)
 | .str s,f=>f (.str s)
 | .agg l,f=>D.forces l fun r=>f (.agg r)
 | .sl n l,f=>forceN n fun m=>D.forces l fun r=>f (.sl m r)
 | .slf n l,f=>forceN n fun m=>D.forces l fun r=>f (.slf m r)
 | .nilsl,f=>f .nilsl
 | .sl0,f=>f .sl0
 | .sle,f=>f .sle
 | .nilifc,f=>f .nilifc
 | .nilp,f=>f .nilp
 | .nilfn,f=>f .nilfn
 | .ifc t d,f=>D.force d fun e=>f (.ifc t e)
 | .ptr l o,f=>forceN o fun m=>D.forces l fun r=>f (.ptr r m)
def D.forces {R:Type}:List D→(List D→R)→R
 | [],f=>f []
 | x::l,f=>D.force x fun y=>D.forces l fun r=>f (y::r)
end
mutual
theorem D.force_eq {R:Type}:∀(x:D) (f:D→R),D.force x f=f x
 | .int k n,f=>by simp only [D.force,o_jw]
 | .bool true,f=>by simp only [D.force]
 | .bool false,f=>by simp only [D.force]
 | .str s,f=>by simp only [D.force]
 | .agg l,f=>by simp only [D.force];rw [D.forces_eq l]
 | .sl n l,f=>by simp only [D.force,o_jv];rw [D.forces_eq l]
 | .slf n l,f=>by simp only [D.force,o_jv];rw [D.forces_eq l]
 | .nilsl,f=>by simp only [D.force]
 | .sl0,f=>by simp only [D.force]
 | .sle,f=>by simp only [D.force]
 | .nilifc,f=>by simp only [D.force]
 | .nilp,f=>by simp only [D.force]
 | .nilfn,f=>by simp only [D.force]
 | .ifc t d,f=>by simp only [D.force];rw [D.force_eq d]
 | .ptr l o,f=>by simp only [D.force,o_jv];rw [D.forces_eq l]
theorem D.forces_eq {R:Type}:∀(l:List D) (f:List D→R),D.forces l f=f l
 | [],f=>by simp only [D.forces]
 | x::l,f=>by simp only [D.forces];rw [D.force_eq x,D.forces_eq l]
end
mutual
def V.force {R:Type}:V→(V→R)→R
 | .d x,f=>D.force x fun y=>f (.d y)
 | .agg l,f=>V.forces l fun r=>f (.agg r)
 | .tup l,f=>V.forces l fun r=>f (.tup r)
 | .p n o,f=>forceN n fun m=>forceN o fun q=>f (.p m q)
 | .row n o k,f=>forceN n fun m=>forceN o fun q=>forceN k fun j=>f (.row m q j)
 | .own n o k,f=>forceN n fun m=>forceN o fun q=>forceN k fun j=>f (.own m q j)
 | .mp n,f=>forceN n fun m=>f (.mp m)
 | .fn g l,f=>V.forces l fun r=>f (.fn g r)
 | .junk,f=>f .junk
def V.forces {R:Type}:List V→(List V→R)→R
 | [],f=>f []
 | x::l,f=>V.force x fun y=>V.forces l fun r=>f (y::r)
end
mutual
theorem V.force_eq {R:Type}:∀(x:V) (f:V→R),V.force x f=f x
 | .d x,f=>by simp only [V.force,D.force_eq]
 | .agg l,f=>by simp only [V.force];rw [V.forces_eq l]
 | .tup l,f=>by simp only [V.force];rw [V.forces_eq l]
 | .p n o,f=>by simp only [V.force,o_jv]
 | .row n o k,f=>by simp only [V.force,o_jv]
 | .own n o k,f=>by simp only [V.force,o_jv]
 | .mp n,f=>by simp only [V.force,o_jv]
 | .fn g l,f=>by simp only [V.force];rw [V.forces_eq l]
 | .junk,f=>by simp only [V.force]
theorem V.forces_eq {R:Type}:∀(l:List V) (f:List V→R),V.forces l f=f l
 | [],f=>by simp only [V.forces]
 | x::l,f=>by simp only [V.forces];rw [V.force_eq x,V.forces_eq l]
end
def forceQ {R:Type} (x:V) (f:V→R):R:=match x with
 | .d y=>(match y with
  | .int k n=>forceI n fun m=>f (.d (.int k m))
  | .bool b=>(match b with
   | true=>f (.d (.bool true))
   | false=>f (.d (.bool false)))
  | z=>D.force z fun w=>f (.d w))
 | .p n o=>forceN n fun m=>forceN o fun q=>f (.p m q)
 | .junk=>f .junk
 | z=>V.force z f
theorem o_jx {R:Type} (x:V) (f:V→R):forceQ x f=f x:=by
 unfold forceQ
 split
 ·split
  ·rw [o_jw]
  ·split<;>rfl
  ·rw [D.force_eq]
 ·simp only [o_jv]
 ·rfl
 ·rw [V.force_eq]
def forceQs {R:Type}:List V→(List V→R)→R
 | [],f=>f []
 | x::l,f=>forceQ x fun y=>forceQs l fun r=>f (y::r)
theorem o_jy {R:Type}:∀(l:List V) (f:List V→R),forceQs l f=f l
 | [],f=>by simp only [forceQs]
 | x::l,f=>by simp only [forceQs];rw [o_jx x,o_jy l]
def setC {R:Type}:List V→Nat→V→(List V→R)→R
 | [],_,_,f=>f []
 | _::l,0,x,f=>f (x::l)
 | a::l,n+1,x,f=>setC l n x fun r=>f (a::r)
theorem o_jz {R:Type}:∀(l:List V) (n:Nat) (x:V) (f:List V→R),setC l n x f=f (l.set n x)
 | [],n,x,f=>by simp only [setC,List.set_nil]
 | a::l,0,x,f=>by simp only [setC,List.set_cons_zero]
 | a::l,n+1,x,f=>by simp only [setC,List.set_cons_succ];rw [o_jz l n x]
def putC {R:Type} (T:List V):Option Nat→V→(List V→R)→R
 | none,_,f=>f T
 | some n,x,f=>forceQ x fun y=>setC T n y f
theorem o_k0 {R:Type} (T:List V) (d:Option Nat) (x:V) (f:List V→R):putC T d x f=f (putT T d x):=by
 cases d with
 | none=>rfl
 | some n=>simp only [putC,o_jx,o_jz];rfl
def forceO {R:Type}:Option Ob→(Option Ob→R)→R
 | none,f=>f none
 | some ⟨t,c⟩,f=>forceQs c fun r=>f (some ⟨t,r⟩)
theorem o_k1 {R:Type} (o:Option Ob) (f:Option Ob→R):forceO o f=f o:=by
 cases o with
 | none=>rfl
 | some ob=>simp only [forceO,o_jy]
def forceH {R:Type} (wr:List Nat):Nat→List (Option Ob)→(List (Option Ob)→R)→R
 | _,[],f=>f []
 | i,a::l,f=>match wr.any (Nat.beq i) with
  | true=>forceO a fun b=>forceH wr (i+1) l fun r=>f (b::r)
  | false=>forceH wr (i+1) l fun r=>f (a::r)
theorem o_k2 {R:Type} (wr:List Nat):∀(i:Nat) (l:List (Option Ob)) (f:List (Option Ob)→R),forceH wr i l f=f l
 | i,[],f=>by simp only [forceH]
 | i,a::l,f=>by
  unfold forceH
  split
  ·rw [o_k1,o_k2 wr (i+1) l]
  ·rw [o_k2 wr (i+1) l]
def forceHs {R:Type}:List Ob→(List Ob→R)→R
 | [],f=>f []
 | ⟨t,c⟩::l,f=>forceQs c fun r=>forceHs l fun q=>f (⟨t,r⟩::q)
theorem o_k3 {R:Type}:∀(l:List Ob) (f:List Ob→R),forceHs l f=f l
 | [],f=>by simp only [forceHs]
 | ⟨t,c⟩::l,f=>by simp only [forceHs];rw [o_jy,o_k3 l]
def forceW {R:Type}:List Nat→(List Nat→R)→R
 | [],f=>f []
 | a::l,f=>forceN a fun b=>forceW l fun r=>f (b::r)
theorem o_k4 {R:Type}:∀(l:List Nat) (f:List Nat→R),forceW l f=f l
 | [],f=>by simp only [forceW]
 | a::l,f=>by simp only [forceW,o_jv];rw [o_k4 l]
def forceR {R:Type} (H:List (Option Ob)) (r:R4) (f:V→List (Option Ob)→List Nat→List Nat→R):R:=forceW r.2.2.1 fun rd=>forceW r.2.2.2 fun wr=>match wr with
 | []=>forceH [] 0 r.2.1 fun h=>f r.1 h rd []
 | w=>forceH w 0 r.2.1 fun h=>f r.1 h rd w
theorem o_k5 {R:Type} (H:List (Option Ob)) (r:R4) (f:V→List (Option Ob)→List Nat→List Nat→R):forceR H r f=f r.1 r.2.1 r.2.2.1 r.2.2.2:=by
 unfold forceR
 simp only [o_k4]
 split<;>simp_all only [o_k2]

section
variable (cl:FuncId→List V→List (Option Ob)→Option R4) (mt:TypeId→String→Option FuncId)
def evOps (draw:Bool):List O→List E→List V→List (Option Ob)→Option (List (List V×List (Option Ob)))
 | [],tr,T,H=>if draw then (if okTrace tr=true then some [(T,H)] else none) else some [(T,H)]
 | o::os,tr,T,H=>match o.g with
  | none=>match A.evs T H cl mt o.a with
   | some rs=>bindL rs fun r=>forceR H r fun x h rd wr=>putC T o.dst x fun T'=>evOps draw os (⟨o.a.slots,o.dst,rd,wr,o.after⟩::tr) T' h
   | none=>none
  | some (s,w)=>match T.getD s .junk with
   | .d (.bool b)=>if b=w then (match A.evs T H cl mt o.a with
     | some rs=>bindL rs fun r=>forceR H r fun x h rd wr=>putC T o.dst x fun T'=>evOps draw os (⟨s::o.a.slots,o.dst,rd,wr,o.after⟩::tr) T' h
     | none=>none) else putC T o.dst (.tup []) fun T'=>evOps draw os (⟨[s],o.dst,[],[],o.after⟩::tr) T' H
   | .tup []=>putC T o.dst (.tup []) fun T'=>evOps draw os (⟨[s],o.dst,[],[],o.after⟩::tr) T' H
   | _=>none
abbrev Out:=Exit×List V×List (Option Ob)
def Out.blk (id:Nat):Out→Out
 | (.exit j,T,H)=>if j=id then (.normal,T,H) else (.exit j,T,H)
 | o=>o
variable (fz:Option (Nat×List Nat)) in
def evC:Nat→C→List V→List (Option Ob)→Option (List Out)
 | 0,_,_,_=>none
 | n+1,c,T,H=>match c with
  | .skip=>some [(.normal,T,H)]
  | .ret=>match fz with
   | none=>some [(.ret,T,H)]
   | some (k,sl)=>let ex:=V.namess (sl.map fun i=>T.getD i .junk)
    let l:=((List.range H.length).drop k).filter fun n=>!ex.contains n
    let r:=fzAll (l++(l++l)) (T,H)
    some [(.ret,r.1,r.2)]
  | .exit i=>some [(.exit i,T,H)]
  | .seq a b=>match evC n a T H with
   | some l=>bindL l fun o=>match o.1 with
    | .normal=>evC n b o.2.1 o.2.2
    | _=>some [o]
   | none=>none
  | .cond c a b=>match c.ev T with
   | .d (.bool t)=>if t then evC n a T H else evC n b T H
   | _=>none
  | .block id a=>(evC n a T H).map fun l=>l.map (Out.blk id)
  | .loop a=>match evC n a T H with
   | some l=>bindL l fun o=>match o.1 with
    | .normal=>evC n (.loop a) o.2.1 o.2.2
    | _=>some [o]
   | none=>none
  | .reg draw ops=>(evOps cl mt draw ops [] T H).map fun l=>l.map fun r=>(.normal,r.1,r.2)
  | _=>none
end
section
variable {P:Program} {cl:FuncId→List V→List (Option Ob)→Option R4} {mt:TypeId→String→Option FuncId}
theorem o_k6 (hcl:∀f args H r,cl f args H=some r→∀K,R4.then r K→CallS P f args H K) (hmt:∀t name g,mt t name=some g→MethOK P t name g) {draw:Bool}:∀(os:List O) (tr:List E) (T:List V) (H:List (Option Ob)) (outs:List (List V×List (Option Ob))),evOps cl mt draw os tr T H=some outs→∀K:List V→List (Option Ob)→Prop,(∀o∈outs,K o.1 o.2)→vops P draw K os tr T H
 | [],tr,T,H,outs,h,K,hK=>by
  unfold evOps at h
  unfold vops
  cases draw
  ·simp only [Bool.false_eq_true,if_false] at h ⊢
   cases h;exact hK (T,H) (List.mem_singleton.2 rfl)
  ·simp only [if_true] at h ⊢
   split at h
   ·rename_i ho
    cases h;exact ⟨ho,hK (T,H) (List.mem_singleton.2 rfl)⟩
   ·cases h
 | o::os,tr,T,H,outs,h,K,hK=>by
  have step:∀(tl:R4→List E) (rs:List R4),A.evs T H cl mt o.a=some rs→bindL rs (fun r=>evOps cl mt draw os (tl r) (putT T o.dst r.1) r.2.1)=some outs→A.step P T H (fun x H' rd wr=>vops P draw K os (tl (x,H',rd,wr)) (putT T o.dst x) H') o.a:=fun tl rs hr hb=>by
   refine A.evs_ok hcl hmt o.a rs hr _ fun r hr'=>?_
   obtain ⟨x,hx,hsub⟩:=o_jr hb r hr'
   exact o_k6 hcl hmt os _ _ _ x hx K fun o ho=>hK o (hsub o ho)
  unfold evOps at h
  simp only [o_k5,o_k0] at h
  unfold vops
  cases hg:o.g with
  | none =>
   rw [hg] at h
   simp only at h ⊢
   split at h
   ·rename_i rs hr
    exact step (fun r=>⟨o.a.slots,o.dst,r.2.2.1,r.2.2.2,o.after⟩::tr) rs hr h
   ·cases h
  | some sw =>
   obtain ⟨s,w⟩:=sw
   rw [hg] at h
   simp only at h ⊢
   split at h
   ·rename_i b hb
    split at h
    ·rename_i hbw
     split at h
     ·rename_i rs hr
      rw [hb]
      exact ⟨fun _=>step (fun r=>⟨s::o.a.slots,o.dst,r.2.2.1,r.2.2.2,o.after⟩::tr) rs hr h,fun hn=>absurd hbw hn⟩
     ·cases h
    ·rename_i hbw
     rw [hb]
     exact ⟨fun hn=>absurd hn hbw,fun _=>o_k6 hcl hmt os _ _ _ outs h K hK⟩
   ·rename_i hb
    rw [hb]
    exact o_k6 hcl hmt os _ _ _ outs h K hK
   ·cases h
theorem o_k7 (hmix:P.follows .mixedOrders=true) (hcl:∀f args H r,cl f args H=some r→∀K,R4.then r K→CallS P f args H K) (hmt:∀t name g,mt t name=some g→MethOK P t name g) {fz:Option (Nat×List Nat)} {L:Nat}:∀(n:Nat),(∀(c:C) (T:List V) (H:List (Option Ob)) (outs:List Out),evC cl mt fz n c T H=some outs→∀Q:Exit→List V→List (Option Ob)→Prop,(∀o∈outs,Q o.1 o.2.1 o.2.2)→AW P L c Q T H)∧(∀(a:C) (T:List V) (H:List (Option Ob)) (outs:List Out),evC cl mt fz n (.loop a) T H=some outs→∀Q:Exit→List V→List (Option Ob)→Prop,(∀o∈outs,Q o.1 o.2.1 o.2.2)→AWu P L a Q n T H)
 | 0=>⟨fun c T H outs h=>(by cases h),fun a T H outs h=>(by cases h)⟩
 | n+1=>by
  obtain ⟨ih,ihl⟩:=o_k7 hmix hcl hmt (L:=L) n
  have hl:∀(a:C) (T:List V) (H:List (Option Ob)) (outs:List Out),evC cl mt fz (n+1) (.loop a) T H=some outs→∀Q:Exit→List V→List (Option Ob)→Prop,(∀o∈outs,Q o.1 o.2.1 o.2.2)→AWu P L a Q (n+1) T H:=by
   intro a T H outs h Q hQ
   simp only [evC] at h
   cases ha:evC cl mt fz n a T H with
   | none=>rw [ha] at h;cases h
   | some l =>
    rw [ha] at h
    simp only at h
    refine AWu.next (ih a T H l ha _ fun o ho=>?_)
    obtain ⟨x,hx,hsub⟩:=o_jr h o ho
    obtain ⟨e1,T1,H1⟩:=o
    cases e1 with
    | normal=>exact ihl a T1 H1 x hx Q fun o ho=>hQ o (hsub o ho)
    | _=>cases hx;exact hQ _ (hsub _ (List.mem_singleton.2 rfl))
  have one:∀{o:Out} {outs:List Out} {Q:Exit→List V→List (Option Ob)→Prop},some [o]=some outs→(∀o∈outs,Q o.1 o.2.1 o.2.2)→Q o.1 o.2.1 o.2.2:=fun h hQ=>by cases h;exact hQ _ (List.mem_singleton.2 rfl)
  refine ⟨fun c T H outs h Q hQ=>?_,hl⟩
  cases c with
  | skip=>exact AW.skip (one h hQ)
  | ret =>
   simp only [evC] at h
   split at h
   ·exact AW.ret (one h hQ)
   ·exact o_ju _ (T,H) (AW.ret (one h hQ))
  | exit i=>exact AW.exit (one h hQ)
  | seq a b =>
   simp only [evC] at h
   refine AW.seq ?_
   cases ha:evC cl mt fz n a T H with
   | none=>rw [ha] at h;cases h
   | some l =>
    rw [ha] at h
    simp only at h
    refine ih a T H l ha _ fun o ho=>?_
    obtain ⟨x,hx,hsub⟩:=o_jr h o ho
    obtain ⟨e1,T1,H1⟩:=o
    cases e1 with
    | normal=>exact ih b T1 H1 x hx Q fun o ho=>hQ o (hsub o ho)
    | _=>cases hx;exact hQ _ (hsub _ (List.mem_singleton.2 rfl))
  | cond c a b =>
   simp only [evC] at h
   split at h
   ·rename_i t ht
    refine AW.cond ht (fun hh=>?_) (fun hh=>?_)
    ·subst hh;exact ih a T H outs h Q hQ
    ·subst hh;exact ih b T H outs h Q hQ
   ·cases h
  | block id a =>
   simp only [evC,Option.map_eq_some_iff] at h
   obtain ⟨l,ha,h2⟩:=h
   subst h2
   refine AW.block (ih a T H l ha _ fun o ho=>?_)
   have hq:=hQ _ (List.mem_map.2 ⟨o,ho,rfl⟩)
   obtain ⟨e1,T1,H1⟩:=o
   cases e1 with
   | exit j =>
    simp only [Out.blk] at hq
    simp only [blockQ]
    split at hq
    ·rename_i hj;rw [if_pos hj];exact hq
    ·rename_i hj;rw [if_neg hj];exact hq
   | _=>exact hq
  | loop a=>exact AW.rounds (n+1) (hl a T H outs h Q hQ)
  | reg draw ops =>
   simp only [evC,Option.map_eq_some_iff] at h
   obtain ⟨l,h1,h2⟩:=h
   subst h2
   exact AW.reg hmix (o_k6 hcl hmt ops [] T H l h1 _ fun o ho=>hQ _ (List.mem_map.2 ⟨o,ho,rfl⟩))
  | _=>cases h
theorem o_k8 (hmix:P.follows .mixedOrders=true) (hcl:∀f args H r,cl f args H=some r→∀K,R4.then r K→CallS P f args H K) (hmt:∀t name g,mt t name=some g→MethOK P t name g) {fz:Option (Nat×List Nat)} {L n:Nat} {c:C} {T:List V} {H:List (Option Ob)} {outs:List Out} (h:evC cl mt fz n c T H=some outs) {Q:Exit→List V→List (Option Ob)→Prop} (hQ:∀o∈outs,Q o.1 o.2.1 o.2.2):AW P L c Q T H :=
 (o_k7 hmix hcl hmt n).1 c T H outs h Q hQ
end

def posOf (θ:List Nat) (n:Nat):Nat:=match θ with
 | []=>0
 | m::r=>if m=n then 0 else posOf r n+1
theorem o_k9 {n:Nat}:∀{θ:List Nat},n∈θ→posOf θ n<θ.length∧θ.getD (posOf θ n) 0=n
 | m::r,h=>by
  unfold posOf
  by_cases e:m=n
  ·rw [if_pos e];exact ⟨by simp,by simpa using e⟩
  ·rw [if_neg e]
   obtain ⟨h1,h2⟩:=o_k9 (θ:=r) (n:=n) (by
    rcases List.mem_cons.1 h with h | h
    ·exact absurd h.symm e
    ·exact h)
   exact ⟨by simp;omega,by simpa using h2⟩
def inNames (θ:List Nat) (l:List Nat):Bool:=l.all fun n=>θ.contains n
theorem o_ka {θ l:List Nat} (h:inNames θ l=true):∀n∈l,n∈θ:=fun n hn=>by
 have:=List.all_eq_true.1 h n hn
 simpa using this
mutual
theorem V.ren_back {θ:List Nat} {ρ:Nat→Nat} (hρ:∀n∈θ,ρ (posOf θ n)=n):∀(x:V),(∀n∈x.names,n∈θ)→(x.ren (posOf θ)).ren ρ=x
 | .d x,_=>rfl
 | .agg l,h=>by simp only [V.ren];rw [V.rens_back hρ l h]
 | .tup l,h=>by simp only [V.ren];rw [V.rens_back hρ l h]
 | .p n off,h=>by simp only [V.ren];rw [hρ n (h n (by simp [V.names]))]
 | .row n off len,h=>by simp only [V.ren];rw [hρ n (h n (by simp [V.names]))]
 | .own n s len,h=>by simp only [V.ren];rw [hρ n (h n (by simp [V.names]))]
 | .mp n,h=>by simp only [V.ren];rw [hρ n (h n (by simp [V.names]))]
 | .fn f l,h=>by simp only [V.ren];rw [V.rens_back hρ l h]
 | .junk,_=>rfl
theorem V.rens_back {θ:List Nat} {ρ:Nat→Nat} (hρ:∀n∈θ,ρ (posOf θ n)=n):∀(l:List V),(∀n∈V.namess l,n∈θ)→V.rens ρ (V.rens (posOf θ) l)=l
 | [],_=>rfl
 | x::l,h=>by
  simp only [V.rens]
  rw [V.ren_back hρ x fun n hn=>h n (by simp [V.namess,hn]),V.rens_back hρ l fun n hn=>h n (by simp [V.namess,hn])]
end
mutual
theorem V.low_pos {θ:List Nat}:∀(x:V),(∀n∈x.names,n∈θ)→(x.ren (posOf θ)).low θ.length=true
 | .d x,_=>rfl
 | .agg l,h=>by simp only [V.ren,V.low];exact V.lowl_pos l h
 | .tup l,h=>by simp only [V.ren,V.low];exact V.lowl_pos l h
 | .p n off,h=>by simp only [V.ren,V.low,decide_eq_true_eq];exact (o_k9 (h n (by simp [V.names]))).1
 | .row n off len,h=>by simp only [V.ren,V.low,decide_eq_true_eq];exact (o_k9 (h n (by simp [V.names]))).1
 | .own n s len,h=>by simp only [V.ren,V.low,decide_eq_true_eq];exact (o_k9 (h n (by simp [V.names]))).1
 | .mp n,h=>by simp only [V.ren,V.low,decide_eq_true_eq];exact (o_k9 (h n (by simp [V.names]))).1
 | .fn f l,h=>by simp only [V.ren,V.low];exact V.lowl_pos l h
 | .junk,_=>rfl
theorem V.lowl_pos {θ:List Nat}:∀(l:List V),(∀n∈V.namess l,n∈θ)→V.lowl θ.length (V.rens (posOf θ) l)=true
 | [],_=>rfl
 | x::l,h=>by
  simp only [V.rens,V.lowl,Bool.and_eq_true]
  exact ⟨V.low_pos x fun n hn=>h n (by simp [V.namess,hn]),V.lowl_pos l fun n hn=>h n (by simp [V.namess,hn])⟩
end
def reachN (H:List (Option Ob)):Nat→List Nat→List Nat→List Nat
 | 0,_,seen=>seen
 | _+1,[],seen=>seen
 | k+1,n::r,seen=>if seen.contains n then reachN H k r seen else match H.getD n none with
  | some ob=>reachN H k (V.namess ob.c++r) (seen++[n])
  | none=>reachN H k r (seen++[n])
def nodupB:List Nat→Bool
 | []=>true
 | n::l=>!l.contains n&&nodupB l
theorem o_kb:∀{l:List Nat},nodupB l=true→l.Nodup
 | [],_=>by simp
 | n::l,h=>by
  simp only [nodupB,Bool.and_eq_true,Bool.not_eq_true',List.contains_eq_mem,decide_eq_false_iff_not] at h
  exact List.nodup_cons.2 ⟨h.1,o_kb h.2⟩
def obsOf (H:List (Option Ob)) (θ':List Nat):List Nat→Option (List Ob)
 | []=>some []
 | n::θ=>match H.getD n none,obsOf H θ' θ with
  | some ob,some l=>if inNames θ' (V.namess ob.c)=true then some (⟨ob.T,V.rens (posOf θ') ob.c⟩::l) else none
  | _,_=>none
theorem o_kc {H:List (Option Ob)} {θ':List Nat} {ρ:Nat→Nat} (hρ:∀n∈θ',ρ (posOf θ' n)=n):∀{θ:List Nat} {l:List Ob},obsOf H θ' θ=some l→obsAt θ'.length H ρ θ l∧l.length=θ.length
 | [],l,h=>by cases h;exact ⟨trivial,rfl⟩
 | n::θ,l,h=>by
  simp only [obsOf] at h
  split at h
  ·rename_i ob l' h1 h2
   split at h
   ·rename_i h3
    cases h
    obtain ⟨h4,h5⟩:=o_kc hρ h2
    refine ⟨⟨⟨V.lowl_pos _ (o_ka h3),?_⟩,h4⟩,by simp [h5]⟩
    rw [V.rens_back hρ _ (o_ka h3)];exact h1
   ·cases h
  ·cases h
def obsEnd (H:List (Option Ob)) (θ':List Nat) (k:Nat):List Nat→Option (List Ob)
 | []=>some []
 | n::θ=>match obsEnd H θ' k θ with
  | some l=>match H.getD n none with
   | some ob=>if inNames θ' (V.namess ob.c)=true then some (⟨ob.T,V.rens (posOf θ') ob.c⟩::l) else none
   | none=>if n<k then some (⟨0,[]⟩::l) else none
  | none=>none
theorem o_kd {H:List (Option Ob)} {θ':List Nat} {k:Nat} {ρ:Nat→Nat} (hρ:∀n∈θ',ρ (posOf θ' n)=n) (dead:List Nat):∀{θ:List Nat} {l:List Ob} (j:Nat),obsEnd H θ' k θ=some l→(∀i,i<θ.length→H.getD (θ.getD i 0) none=none→i+j∈dead)→obsIs H ρ dead j θ l∧l.length=θ.length∧∀ob∈l,V.lowl θ'.length ob.c=true
 | [],l,j,h,hd=>by cases h;exact ⟨trivial,rfl,by simp⟩
 | n::θ,l,j,h,hd=>by
  simp only [obsEnd] at h
  split at h
  ·rename_i l' h2
   obtain ⟨h4,h5,h6⟩:=o_kd hρ dead (j+1) h2 fun i hi hn=>by
    have:=hd (i+1) (by simp;omega) (by simpa using hn)
    rw [show i+(j+1)=i+1+j by omega];exact this
   split at h
   ·rename_i ob h1
    split at h
    ·rename_i h3
     cases h
     refine ⟨⟨.inr ?_,h4⟩,by simp [h5],fun o ho=>?_⟩
     ·show obIs H n _
      rw [V.rens_back hρ _ (o_ka h3)]
      exact ⟨ob,h1,rfl,Subs.refl _⟩
     ·rcases List.mem_cons.1 ho with rfl | ho
      ·exact V.lowl_pos _ (o_ka h3)
      ·exact h6 o ho
    ·cases h
   ·rename_i h1
    split at h
    ·cases h
     refine ⟨⟨.inl ?_,h4⟩,by simp [h5],fun o ho=>?_⟩
     ·have:=hd 0 (by simp) (by simpa using h1)
      simpa using this
     ·rcases List.mem_cons.1 ho with rfl | ho
      ·rfl
      ·exact h6 o ho
    ·cases h
  ·cases h

theorem o_ke {H:List (Option Ob)} {θ':List Nat} {k:Nat}:∀{θ:List Nat} {l:List Ob},obsEnd H θ' k θ=some l→∀i,i<θ.length→H.getD (θ.getD i 0) none=none→θ.getD i 0<k
 | [],l,h,i,hi,hn=>absurd hi (by simp)
 | n::θ,l,h,i,hi,hn=>by
  simp only [obsEnd] at h
  split at h
  ·rename_i l' h2
   cases i with
   | succ i=>simpa using o_ke h2 i (by simpa using hi) (by simpa using hn)
   | zero =>
    have hn:H.getD n none=none:=by simpa using hn
    rw [hn] at h
    simp only at h
    split at h
    ·rename_i h3;simpa using h3
    ·cases h
  ·cases h
theorem o_kf {θ:List Nat} (dead:List Nat) (h:θ.Nodup):apartB θ dead=true:=by
 refine List.all_eq_true.2 fun i hi=>List.all_eq_true.2 fun j hj=>?_
 have hi:=List.mem_range.1 hi
 have hj:=List.mem_range.1 hj
 by_cases e:i=j
 ·subst e;simp
 ·have:θ.getD i 0≠θ.getD j 0:=by
   rw [List.getD_eq_getElem?_getD,List.getD_eq_getElem?_getD,List.getElem?_eq_getElem hi,List.getElem?_eq_getElem hj]
   intro he
   exact e ((List.getElem_inj (h₀:=hi) (h₁:=hj) h).1 (by simpa using he))
  have h2:(θ.getD i 0 != θ.getD j 0)=true:=by simpa using this
  rw [h2];simp
def exitB:Exit→Bool
 | .normal | .ret=>true
 | _=>false
def beqNs:List Nat→List Nat→Bool
 | [],[]=>true
 | a::l,b::r=>Nat.beq a b&&beqNs l r
 | _,_=>false
theorem o_kg:∀{a b:List Nat},beqNs a b=true→a=b
 | [],[],_=>rfl
 | a::l,b::r,h=>by
  simp only [beqNs,Bool.and_eq_true] at h
  rw [Nat.eq_of_beq_eq_true h.1,o_kg h.2]
def deadOf (H:List (Option Ob)) (k:Nat):List Nat:=(List.range k).filter fun i=>(H.getD i none).isNone
def outF (rs:List RV) (k:Nat) (o:Out):Option (V×List Ob×List Nat×List Nat):=match outV o.2.1 o.2.2 rs with
 | some x0 =>
  let x:=x0.norm
  let θ:=reachN o.2.2 100000 ((List.range k).flatMap (fun i=>match o.2.2.getD i none with | some ob=>V.namess ob.c | none=>[])++x.names) (List.range k)
  match obsEnd o.2.2 θ k θ with
  | some Hs'=>if exitB o.1&&beqNs (θ.take k) (List.range k)&&nodupB θ&&inNames θ x.names then some (x.ren (posOf θ),Hs',deadOf o.2.2 k,θ) else none
  | none=>none
 | none=>none
theorem o_kh {rs:List RV} {k:Nat} {o:Out} {X:V} {Hs':List Ob} {dead θ:List Nat} (h:outF rs k o=some (X,Hs',dead,θ)) :
  k≤Hs'.length∧(∀i∈dead,i<k)∧θ.take k=List.range k∧apartB θ dead=true∧X.low Hs'.length=true∧(∀ob∈Hs',V.lowl Hs'.length ob.c=true)∧retG rs θ X Hs' dead o.1 o.2.1 o.2.2:=by
 obtain ⟨e,T,H⟩:=o
 unfold outF at h
 simp only at h
 split at h
 ·rename_i x0 hx
  generalize hnx:x0.norm=x at h
  generalize hθ:reachN H 100000 ((List.range k).flatMap (fun i=>match H.getD i none with | some ob=>V.namess ob.c | none=>[])++x.names) (List.range k)=θ1 at h
  split at h
  ·rename_i Hs1 hob
   split at h
   ·rename_i hb
    simp only [Bool.and_eq_true] at hb
    obtain ⟨⟨⟨h1,h2⟩,h3⟩,h4⟩:=hb
    cases h
    have hnd:=o_kb h3
    have htk:=o_kg h2
    have hρ:∀n∈θ,(fun i=>θ.getD i 0) (posOf θ n)=n:=fun n hn=>(o_k9 hn).2
    have hdead:∀i,i<θ.length→H.getD (θ.getD i 0) none=none→i+0∈deadOf H k:=by
     intro i hi hn
     have h5:=o_ke hob i hi hn
     have h6:θ.getD (θ.getD i 0) 0=θ.getD i 0:=by
      have h7:(θ.take k)[θ.getD i 0]?=(List.range k)[θ.getD i 0]?:=by rw [htk]
      rw [List.getElem?_take,if_pos h5,List.getElem?_range h5] at h7
      rw [List.getD_eq_getElem?_getD,h7];rfl
     have h8:θ.getD i 0<θ.length:=by
      have:=congrArg List.length htk
      simp at this
      omega
     have h9:θ.getD i 0=i:=by
      have a1:θ.getD (θ.getD i 0) 0=θ[θ.getD i 0]:=by rw [List.getD_eq_getElem?_getD,List.getElem?_eq_getElem h8];rfl
      have a2:θ.getD i 0=θ[i]:=by rw [List.getD_eq_getElem?_getD,List.getElem?_eq_getElem hi];rfl
      exact (List.getElem_inj (h₀:=h8) (h₁:=hi) hnd).1 (by rw [←a1,h6,a2])
     rw [h9] at hn h5
     exact List.mem_filter.2 ⟨List.mem_range.2 h5,by show (H.getD i none).isNone=true;rw [hn];rfl⟩
    obtain ⟨o1,o2,o3⟩:=o_kd (ρ:=fun i=>θ.getD i 0) hρ (deadOf H k) 0 hob hdead
    have hkl:k≤Hs'.length:=by
     rw [o2]
     have:=congrArg List.length htk
     simp at this
     omega
    refine ⟨hkl,fun i hi=>?_,htk,o_kf _ hnd,?_,?_,?_⟩
    ·exact List.mem_range.1 (List.mem_filter.1 hi).1
    ·rw [o2];exact V.low_pos x (o_ka h4)
    ·rw [o2];exact o3
    ·have:(∃y,outV T H rs=some y∧Sub1 y ((x.ren (posOf θ)).ren fun i=>θ.getD i 0))∧obsIs H (fun i=>θ.getD i 0) (deadOf H k) 0 θ Hs' :=
      ⟨⟨x0,hx,by rw [V.ren_back hρ x (o_ka h4),←hnx];exact V.norm_sub x0⟩,o1⟩
     cases e<;>first | exact this | cases h1
   ·cases h
  ·cases h
 ·cases h
def sameR (r s:V×List Ob×List Nat×List Nat):Bool:=V.beq r.1 s.1&&obsB r.2.1 s.2.1&&beqNs r.2.2.1 s.2.2.1&&beqNs r.2.2.2 s.2.2.2
theorem o_ki {r s:V×List Ob×List Nat×List Nat} (h:sameR r s=true):r=s:=by
 simp only [sameR,Bool.and_eq_true] at h
 obtain ⟨⟨⟨h1,h2⟩,h3⟩,h4⟩:=h
 obtain ⟨a,b,c,d⟩:=r
 obtain ⟨a',b',c',d'⟩:=s
 rw [show a=a' from V.beq_ok _ _ h1,show b=b' from o_js h2,show c=c' from o_kg h3,show d=d' from o_kg h4]
def evF (tbl:FuncId→Option (C×List RV×Nat)) (fz:FuncId→Bool) (cl:FuncId→List V→List (Option Ob)→Option R4) (mt:TypeId→String→Option FuncId) (n:Nat) (f:FuncId) (args:List V) (Hs:List Ob):Option (V×List Ob×List Nat) :=
 match tbl f with
 | some (c,rs,nt)=>match forceQs args fun args0=>forceHs Hs fun Hs0=>evC cl mt (if fz f then some (Hs.length,rs.filterMap fun | .cell n _ _=>some n | _=>none) else none) n c (args0++List.replicate (nt-args0.length) .junk) (Hs0.map some) with
  | some outs=>match bindL outs fun o=>(outF rs Hs.length o).map fun r=>[r] with
   | some (r::l)=>if l.all (sameR r) then some (r.1,r.2.1,r.2.2.1) else none
   | _=>none
  | none=>none
 | none=>none
theorem o_kj {P:Program} {tbl:FuncId→Option (C×List RV×Nat)} {fz:FuncId→Bool} {cl:FuncId→List V→List (Option Ob)→Option R4} {mt:TypeId→String→Option FuncId} {n:Nat} {f:FuncId} {args:List V} {Hs:List Ob} {X:V} {Hs':List Ob} {dead:List Nat}
  (hmix:P.follows .mixedOrders=true) (htbl:∀f c rs nt,tbl f=some (c,rs,nt)→fnOf P f=some (c,rs,nt,false)) (hcl:∀f args H r,cl f args H=some r→∀K,R4.then r K→CallS P f args H K) (hmt:∀t name g,mt t name=some g→MethOK P t name g)
  (h:evF tbl fz cl mt n f args Hs=some (X,Hs',dead)):EqnD P f args Hs X Hs' dead:=by
 unfold evF at h
 simp only [o_jy,o_k3] at h
 split at h
 ·rename_i c rs nt hf
  split at h
  ·rename_i outs hc
   split at h
   ·rename_i r l hb
    split at h
    ·rename_i hall
     obtain ⟨X1,Hs1,dead1,θ⟩:=r
     injection h with h
     injection h with h1 h2
     injection h2 with h2 h3
     simp only at h1 h2 h3
     subst h1;subst h2;subst h3
     have each:∀o∈outs,outF rs Hs.length o=some (X1,Hs1,dead1,θ):=fun o ho=>by
      obtain ⟨x,hx,hsub⟩:=o_jr hb o ho
      rw [Option.map_eq_some_iff] at hx
      obtain ⟨r,hr,rfl⟩:=hx
      rw [hr]
      rcases List.mem_cons.1 (hsub r (List.mem_singleton.2 rfl)) with h | h
      ·rw [h]
      ·rw [←o_ki (List.all_eq_true.1 hall r h)]
     cases outs with
     | nil=>cases hb
     | cons o0 outs =>
      obtain ⟨a1,a2,a3,a4,a5,a6,_⟩:=o_kh (each o0 (List.mem_cons_self ..))
      exact Eqn.gen θ (htbl _ _ _ _ hf) a1 a2 a3 a4 a5 a6 (o_k8 hmix hcl hmt hc fun o ho=>(o_kh (each o ho)).2.2.2.2.2.2)
    ·cases h
   ·cases h
  ·cases h
 ·cases h
def evCl (tbl:FuncId→Option (C×List RV×Nat)) (fz:FuncId→Bool) (orc:FuncId→List V→List (Option Ob)→Option R4) (mt:TypeId→String→Option FuncId) (fuel:Nat):Nat→FuncId→List V→List (Option Ob)→Option R4
 | 0,_,_,_=>none
 | n+1,f,args,H=>match orc f args H with
  | some r=>some r
  | none =>
   let θ:=reachN H 100000 (V.namess args) []
   if inNames θ (V.namess args)&&nodupB θ then
    match obsOf H θ θ with
    | some Hs=>match evF tbl fz (evCl tbl fz orc mt fuel n) mt fuel f (V.rens (posOf θ) args) Hs with
     | some (X,Hs',dead)=>some (X.ren (nameOf θ H.length),killAll (putAll H θ (Hs'.map fun ob=>⟨ob.T,V.rens (nameOf θ H.length) ob.c⟩)) θ dead,[],θ++(List.range (Hs'.length-Hs.length)).map (H.length + ·))
     | none=>none
    | none=>none
   else none
theorem o_kk {θ:List Nat} {L:Nat}:∀n∈θ,nameOf θ L (posOf θ n)=n:=fun n hn=>by
 unfold nameOf
 rw [if_pos (o_k9 hn).1];exact (o_k9 hn).2
theorem o_kl {P:Program} {tbl:FuncId→Option (C×List RV×Nat)} {fz:FuncId→Bool} {orc:FuncId→List V→List (Option Ob)→Option R4} {mt:TypeId→String→Option FuncId} {fuel:Nat}
  (hmix:P.follows .mixedOrders=true) (htbl:∀f c rs nt,tbl f=some (c,rs,nt)→fnOf P f=some (c,rs,nt,false)) (horc:∀f args H r,orc f args H=some r→∀K,R4.then r K→CallS P f args H K) (hmt:∀t name g,mt t name=some g→MethOK P t name g) :
  ∀n f args H r,evCl tbl fz orc mt fuel n f args H=some r→∀K,R4.then r K→CallS P f args H K
 | 0,_,_,_,_,h=>by cases h
 | n+1,f,args,H,r,h=>fun K hK=>by
  unfold evCl at h
  split at h
  ·rename_i r' hr;cases h;exact horc _ _ _ _ hr K hK
  ·simp only at h
   generalize hθ:reachN H 100000 (V.namess args) []=θ at h
   split at h
   ·rename_i hb
    simp only [Bool.and_eq_true] at hb
    split at h
    ·rename_i Hs hHs
     split at h
     ·rename_i X Hs' dead hF
      cases h
      have E:=o_kj hmix htbl (o_kl hmix htbl horc hmt n) hmt hF
      obtain ⟨a1,a2⟩:=o_kc (ρ:=nameOf θ H.length) o_kk hHs
      refine CallS.gen θ E (o_kb hb.2) ?_ ?_ ?_ hK
      ·rw [a2];exact a1
      ·rw [a2];exact V.lowl_pos args (o_ka hb.1)
      ·rw [V.rens_back o_kk args (o_ka hb.1)];exact Subs.refl _
     ·cases h
    ·cases h
   ·cases h

def orcB (fa fs fc:FuncId) (f:FuncId) (args:List V) (H:List (Option Ob)):Option R4:=match args with
 | [.d .sl0]=>if Nat.beq f fc=true then some (.d (.sl 0 []),H,[],[]) else none
 | [.d (.sl 0 [])]=>if Nat.beq f fc=true then some (.d (.sl 0 []),H,[],[]) else none
 | [.d (.int .u64 x),.d (.int .u64 y),.d (.int .u64 c)] =>
  if 0≤x∧x<18446744073709551616∧0≤y∧y<18446744073709551616∧0≤c∧c≤1 then
   (if Nat.beq f fa=true then some (.tup [.d (.int .u64 ((x+y+c)%18446744073709551616)),.d (.int .u64 ((x+y+c)/18446744073709551616))],H,[],[])
   else if Nat.beq f fs=true then some (.tup [.d (.int .u64 ((x-y-c)%18446744073709551616)),.d (.int .u64 (if x<y+c then 1 else 0))],H,[],[])
   else none)
  else none
 | _=>none
def tblP (P:Program) (f:FuncId):Option (C×List RV×Nat):=match fnOf P f with
 | some (c,rs,nt,false)=>some (c,rs,nt)
 | _=>none
theorem o_km {P:Program}:∀f c rs nt,tblP P f=some (c,rs,nt)→fnOf P f=some (c,rs,nt,false):=fun f c rs nt h=>by
 unfold tblP at h
 split at h
 ·rename_i c' rs' nt' h1;cases h;exact h1
 ·cases h
def mtL:List (TypeId×String×FuncId)→TypeId→String→Option FuncId
 | [],_,_=>none
 | (t,n,g)::l,t2,n2=>if t=t2 then (if n=n2 then some g else mtL l t2 n2) else mtL l t2 n2
theorem o_kn {P:Program}:∀{l:List (TypeId×String×FuncId)},(∀e∈l,MethOK P e.1 e.2.1 e.2.2)→∀t n g,mtL l t n=some g→MethOK P t n g
 | [],_,t,n,g,h=>by cases h
 | (t1,n1,g1)::l,hl,t,n,g,h=>by
  simp only [mtL] at h
  split at h
  ·split at h
   ·rename_i h1 h2;cases h;subst h1;subst h2;exact hl _ (List.mem_cons_self ..)
   ·exact o_kn (fun e he=>hl e (List.mem_cons_of_mem _ he)) t n g h
  ·exact o_kn (fun e he=>hl e (List.mem_cons_of_mem _ he)) t n g h
theorem Eqn.ev {P:Program} {fz:FuncId→Bool} {ml:List (TypeId×String×FuncId)} {orc:FuncId→List V→List (Option Ob)→Option R4} {fuel n d:Nat} {f:FuncId} {args:List V} {Hs:List Ob} {X:V} {Hs':List Ob} {dead:List Nat}
  (hmix:P.follows .mixedOrders=true) (horc:∀f args H r,orc f args H=some r→∀K,R4.then r K→CallS P f args H K) (hml:∀e∈ml,MethOK P e.1 e.2.1 e.2.2)
  (h:evF (tblP P) fz (evCl (tblP P) fz orc (mtL ml) fuel d) (mtL ml) n f args Hs=some (X,Hs',dead)):EqnD P f args Hs X Hs' dead :=
 o_kj hmix o_km (o_kl hmix o_km horc (o_kn hml) d) (o_kn hml) h
end
section
open Go.RowKit
theorem o_ko:∀f args H r,orcB o_hf o_hh o_6t f args H=some r→∀K,R4.then r K→CallS Tryz.prog f args H K:=by
 intro f args H r h K hK
 unfold orcB at h
 have hcl:∀x:V,Sub1 x (.d (.sl 0 []))→f=o_6t→K (.d (.sl 0 [])) H [] []→CallS Tryz.prog f [x] H K:=fun x hx hf hK=>by
  subst hf
  exact CallS.pure (o_hj 0 [] rfl (by omega)) (o_5o _) rfl (fun _=>rfl) (fun m vs h=>by obtain ⟨v,r,e,h1,h2⟩:=V.reps_cons'.1 h;exact e▸V.reps_cons.2 ⟨hx m v h1,h2⟩) hK
 split at h
 ·split at h
  ·rename_i hf;cases h;exact hcl _ Sub1.sl0 (Nat.eq_of_beq_eq_true hf) hK
  ·cases h
 ·split at h
  ·rename_i hf;cases h;exact hcl _ (fun _ _ h=>h) (Nat.eq_of_beq_eq_true hf) hK
  ·cases h
 rotate_left
 ·cases h
 rename_i x y c
 split at h
 rotate_left
 ·cases h
 rename_i hb
 obtain ⟨x0,x1,y0,y1,c0,c1⟩:=hb
 obtain ⟨a,rfl⟩:=Int.eq_ofNat_of_zero_le x0
 obtain ⟨b,rfl⟩:=Int.eq_ofNat_of_zero_le y0
 obtain ⟨d,rfl⟩:=Int.eq_ofNat_of_zero_le c0
 split at h
 ·rename_i hf
  have hf:=Nat.eq_of_beq_eq_true hf
  subst hf
  cases h
  refine CallS.pure (o_hk a b d ((a+b+d)%18446744073709551616) ((a+b+d)/18446744073709551616) (by omega) (by omega) (by omega) (by omega) (by omega)) (o_ho _ _) rfl (fun _=>rfl) (Subs.refl _) ?_
  have e1:(((a+b+d)%18446744073709551616:Nat):Int)=((a:Int)+b+d)%18446744073709551616:=by omega
  have e2:(((a+b+d)/18446744073709551616:Nat):Int)=((a:Int)+b+d)/18446744073709551616:=by omega
  rw [e1,e2];exact hK
 split at h
 ·rename_i hf
  have hf:=Nat.eq_of_beq_eq_true hf
  subst hf
  cases h
  refine CallS.pure (o_hl a b d ((a+18446744073709551616*(if a<b+d then 1 else 0))-(b+d)) (if a<b+d then 1 else 0) (by omega) (by omega) (by omega) (by split<;>omega) (by split<;>omega)) (o_ho _ _) rfl (fun _=>rfl) (Subs.refl _) ?_
  have e1:(((a+18446744073709551616*(if a<b+d then 1 else 0))-(b+d):Nat):Int)=((a:Int)-b-d)%18446744073709551616:=by split<;>omega
  have e2:(((if a<b+d then 1 else 0:Nat)):Int)=if (a:Int)<b+d then 1 else 0:=by split<;>split<;>omega
  rw [e1,e2];exact hK
 ·cases h
end
section
def exitQ {β:Type} (id N:Nat) (T1:β→List V) (H1:β→List (Option Ob)) (R2:β→Prop) (Q:Exit→List V→List (Option Ob)→Prop):Exit→List V→List (Option Ob)→Prop
 | .exit j,T,H=>if j=id then ∃b,R2 b∧wk N T (T1 b)∧wkH N H (H1 b) else Q (.exit j) T H
 | .normal,_,_=>False
 | e,T,H=>Q e T H
attribute [simp] exitQ
end
section
open Go.RowKit
theorem AW.meet {P:Program} {L:Nat} {Q Q2:Exit→List V→List (Option Ob)→Prop} {T:List V} {H:List (Option Ob)} {x y:C} (T1:List V) (H1:List (Option Ob)) (hL:L≤H1.length)
  (h1:AW P L x (thenQ (fun T' H'=>wk H1.length T' T1∧wkH H1.length H' H1) Q) T H) (h2:AW P L y Q2 T1 H1):AW P L x (thenQ (AW P L y Q2) Q) T H:=by
 intro code hc m0 m a sat hle htop hL'
 refine wp_mono (h1 code hc m0 m a sat hle htop hL') ?_
 rintro e a' w' ⟨T',H',m',rfl,hq,rest⟩
 refine ⟨T',H',m',rfl,?_,rest⟩
 cases e with
 | normal =>
  obtain ⟨w1,w2⟩:=hq
  exact AW.weak (Weak.of w1 w2) hL h2
 | _=>exact hq
end
section
open Go.RowKit
mutual
theorem o_kp (ρ:Nat→Nat):∀(x:V),x.low 0=true→x.ren ρ=x
 | .d _,_=>rfl
 | .agg l,h=>by simp only [V.low] at h;simp only [V.ren];rw [o_kq ρ l h]
 | .tup l,h=>by simp only [V.low] at h;simp only [V.ren];rw [o_kq ρ l h]
 | .p _ _,h=>by simp [V.low] at h
 | .row _ _ _,h=>by simp [V.low] at h
 | .own _ _ _,h=>by simp [V.low] at h
 | .mp _,h=>by simp [V.low] at h
 | .fn _ l,h=>by simp only [V.low] at h;simp only [V.ren];rw [o_kq ρ l h]
 | .junk,_=>rfl
theorem o_kq (ρ:Nat→Nat):∀(l:List V),V.lowl 0 l=true→V.rens ρ l=l
 | [],_=>rfl
 | x::l,h=>by
  simp only [V.lowl,Bool.and_eq_true] at h
  simp only [V.rens]
  rw [o_kp ρ x h.1,o_kq ρ l h.2]
end
def findE (f:FuncId) (args:List V):List (FuncId×List V×V×List Ob)→Option (V×List Ob)
 | []=>none
 | e::l=>match Nat.beq e.1 f&&V.beqs e.2.1 args with
  | true=>some e.2.2
  | false=>findE f args l
theorem o_kr {f:FuncId} {args:List V} {r:V×List Ob}:∀{l:List (FuncId×List V×V×List Ob)},findE f args l=some r→∃e∈l,e.1=f∧e.2.1=args∧e.2.2=r
 | e::l,h=>by
  unfold findE at h
  split at h
  ·rename_i hb
   simp only [Bool.and_eq_true] at hb
   cases h
   exact ⟨e,List.mem_cons_self ..,Nat.eq_of_beq_eq_true hb.1,V.beqs_ok _ _ hb.2,rfl⟩
  ·obtain ⟨e',h1,h2⟩:=o_kr h
   exact ⟨e',List.mem_cons_of_mem _ h1,h2⟩
def orcE (l:List (FuncId×List V×V×List Ob)) (base:FuncId→List V→List (Option Ob)→Option R4) (f:FuncId) (args:List V) (H:List (Option Ob)):Option R4:=match findE f args l with
 | some (X,Hs)=>some (X.ren (nameOf [] H.length),killAll (putAll H [] (Hs.map fun ob=>⟨ob.T,V.rens (nameOf [] H.length) ob.c⟩)) [] [],[],[]++(List.range (Hs.length-0)).map (H.length + ·))
 | none=>base f args H
theorem o_ks {P:Program} {l:List (FuncId×List V×V×List Ob)} {base:FuncId→List V→List (Option Ob)→Option R4} (hl:∀e∈l,EqnD P e.1 e.2.1 [] e.2.2.1 e.2.2.2 []∧V.lowl 0 e.2.1=true) (hb:∀f args H r,base f args H=some r→∀K,R4.then r K→CallS P f args H K) :
  ∀f args H r,orcE l base f args H=some r→∀K,R4.then r K→CallS P f args H K:=by
 intro f args H r h K hK
 unfold orcE at h
 split at h
 ·rename_i X Hs he
  obtain ⟨e,h1,rfl,rfl,h2⟩:=o_kr he
  obtain ⟨E,hlow⟩:=hl e h1
  have e1:e.2.2.1=X:=by rw [h2]
  have e2:e.2.2.2=Hs:=by rw [h2]
  rw [e1,e2] at E
  cases h
  refine CallS.gen [] E (by simp) trivial hlow ?_ hK
  rw [o_kq _ _ hlow]
  exact Subs.refl _
 ·exact hb f args H r h K hK

def mlF : List (TypeId × String × FuncId) := [(377, "tallymark/chain.good", o_7q), (377, "tallymark/chain.step", o_hd), (377, "tallymark/chain.reply", o_hc), (377, "tallymark/chain.value", o_he), (377, "tallymark/chain.chance", o_f2), (377, "tallymark/chain.again", o_hb)]
theorem o_kt:∀e∈mlF,MethOK Tryz.prog e.1 e.2.1 e.2.2:=by
 unfold mlF
 simp only [List.forall_mem_cons]
 exact ⟨fun v w=>by kernel_rfl,fun v w=>by kernel_rfl,fun v w=>by kernel_rfl,fun v w=>by kernel_rfl,fun v w=>by kernel_rfl,fun v w=>by kernel_rfl,by simp⟩
def fzK (f:FuncId):Bool:=Nat.beq f o_an || Nat.beq f o_6t
def itK (k:Int):List D:=[.int .i64 k,.int .i64 0,.int .i64 0,.int .i64 0,.int .i64 0,.int .i64 0,.bool false,.nilp,.nilp,.nilp,.nilp]
def itX (a k:Int):List D:=[.int .i64 1,.int .i64 2,.int .i64 a,.int .i64 3,.int .i64 k,.int .i64 0,.bool false,.nilp,.nilp,.nilp,.nilp]
def u8s (l:List Int):List V:=l.map fun n=>.d (.int .u8 n)
end
section
open Go.RowKit
theorem AW.loopE {P:Program} {L:Nat} {Q:Exit→List V→List (Option Ob)→Prop} {T:List V} {H:List (Option Ob)} {x:C} {α:Type} (T1:α→List V) (H1:α→List (Option Ob)) (R:α→Prop) (μ:α→Nat) (a0:α) (hL:∀a,R a→L≤(H1 a).length) (hR:R a0)
  (h0:wk (H1 a0).length T (T1 a0)) (h0':wkH (H1 a0).length H (H1 a0))
  (h:∀a,R a→AW P L x (thenQ (fun T' H'=>∃a',R a'∧μ a'<μ a∧wk (H1 a').length T' (T1 a')∧wkH (H1 a').length H' (H1 a')) Q) (T1 a) (H1 a)):AW P L (.loop x) Q T H:=by
 refine AW.weak (T1:=T1 a0) (H1:=H1 a0) (Weak.of h0 h0') (hL _ hR) ?_
 intro code hc m0 m a sat hle htop hL'
 cases code<;>simp [resolveC] at hc
 rename_i cx
 refine o_5j (fun k a w=>∃z:α,∃m,m.w=w∧k=μ z∧R z∧Sat m a (T1 z) (H1 z)∧m0.le m (· < L)∧L≤(H1 z).length) ?_ (μ a0) a m.w ⟨a0,m,rfl,rfl,hR,sat,hle,hL'⟩
 rintro k a w ⟨z,m,rfl,rfl,hz,sat,hle,hL1⟩
 refine wp_mono (h z hz cx hc m0 m a sat hle htop hL1) ?_
 rintro e a' w' ⟨T',H',m',rfl,hq,sat',hle',hL'⟩
 cases e with
 | normal =>
  obtain ⟨z',hz',hμ,hw1,hw2⟩:=hq
  obtain ⟨m2,hm2,s2,l2,n2⟩:=Sat.weaken (Weak.of hw1 hw2) sat' hle' htop (hL _ hz')
  exact ⟨μ z',hμ,z',m2,hm2,rfl,hz',s2,l2,n2⟩
 | _=>exact ⟨T',H',m',rfl,hq,sat',hle',hL'⟩

def rowsF (f:Nat→List V):Nat→Nat→List V
 | _,0=>[]
 | k,n+1=>f k++rowsF f (k+1) n
theorem o_ku {f:Nat→List V} {s:Nat} (hf:∀i,(f i).length=s):∀n k,(rowsF f k n).length=n*s
 | 0,_=>by simp [rowsF]
 | n+1,k=>by rw [rowsF,List.length_append,hf,o_ku hf n,Nat.add_mul,Nat.one_mul,Nat.add_comm]
theorem o_kv {f:Nat→List V} {s:Nat} (hf:∀i,(f i).length=s):∀n k i,i<n→(rowsF f k n).drop (i*s)=f (k+i)++rowsF f (k+i+1) (n-i-1)
 | n+1,k,0,_=>by rw [rowsF];simp
 | n+1,k,i+1,h=>by
  rw [rowsF,Nat.add_mul,Nat.one_mul,Nat.add_comm (i*s) s,←List.drop_drop,List.drop_left' (hf k),o_kv hf n (k+1) i (by omega)]
  rw [show k+1+i=k+(i+1) by omega,show n+1-(i+1)-1=n-i-1 by omega]
theorem o_kw {f:Nat→List V} {s:Nat} (hf:∀i,(f i).length=s):∀n k i,i≤n→(rowsF f k n).take (i*s)=rowsF f k i
 | n,k,0,_=>by simp [rowsF]
 | n+1,k,i+1,h=>by
  rw [rowsF,rowsF,Nat.add_mul,Nat.one_mul,Nat.add_comm (i*s) s,List.take_append,hf,Nat.add_sub_cancel_left,o_kw hf n (k+1) i (by omega),List.take_of_length_le (by rw [hf];omega)]
theorem o_kx {f g:Nat→List V}:∀n k,(∀i,k≤i→i<k+n→f i=g i)→rowsF f k n=rowsF g k n
 | 0,_,_=>rfl
 | n+1,k,h=>by rw [rowsF,rowsF,h k (Nat.le_refl _) (by omega),o_kx n (k+1) fun i h1 h2=>h i (by omega) (by omega)]
theorem o_ky {f:Nat→List V}:∀n k m,rowsF f k (n+m)=rowsF f k n++rowsF f (k+n) m
 | 0,k,m=>by simp [rowsF]
 | n+1,k,m=>by rw [show n+1+m=(n+m)+1 by omega,rowsF,rowsF,o_ky n (k+1) m,List.append_assoc,show k+1+n=k+(n+1) by omega]
theorem o_kz {f g:Nat→List V} {s:Nat} (hf:∀i,(f i).length=s) {n i:Nat} (hi:i<n) (hg:(g i).length=s) (hfg:∀j,j≠i→g j=f j):setMany (rowsF f 0 n) (i*s) (g i)=rowsF g 0 n:=by
 have h1:i*s+s≤n*s:=by rw [←Nat.succ_mul];exact Nat.mul_le_mul_right s hi
 rw [o_l _ _ _ (by rw [hg,o_ku hf];exact h1),o_kw hf n 0 i (by omega),hg,←List.drop_drop,o_kv hf n 0 i hi,List.drop_left' (hf _)]
 have h2:n=i+(1+(n-i-1)):=by omega
 conv=>rhs;rw [h2,o_ky,o_ky]
 rw [o_kx (f:=g) (g:=f) i 0 fun j h3 h4=>hfg j (by omega),o_kx (f:=g) (g:=f) (n-i-1) (0+i+1) fun j h3 h4=>hfg j (by omega)]
 simp [rowsF]
def itemL (b:Bool):List D:=if b then [.int .i64 1,.int .i64 2,.int .i64 8,.int .i64 10,.int .i64 0,.int .i64 0,.bool false,.nilp,.nilp,.nilp,.nilp] else [.int .i64 0,.int .i64 0,.int .i64 0,.int .i64 0,.int .i64 0,.int .i64 0,.bool false,.nilp,.nilp,.nilp,.nilp]
def itemV (b:Bool):List V:=(itemL b).map .d
theorem o_l0 (b:Bool):(itemV b).length=11:=by cases b<;>rfl
def slV (hv:Nat→Bool):List V:=rowsF (fun i=>itemV (hv i)) 0 17
def mcs (hv:Nat→Bool):List V:=.p 1 0::slV hv
theorem o_l1 (hv:Nat→Bool):(slV hv).length=187:=o_ku (fun i=>o_l0 _) 17 0
theorem o_l2 (hv:Nat→Bool):(mcs hv).length=188:=by unfold mcs;rw [List.length_cons,o_l1]
theorem o_l3:∀(n:Nat) (l:List D),V.lowl n (l.map .d)=true
 | _,[]=>rfl
 | n,x::l=>by rw [List.map_cons,V.lowl,o_l3 n l];rfl
theorem o_l4:∀(n:Nat) (l r:List V),V.lowl n l=true→V.lowl n r=true→V.lowl n (l++r)=true
 | _,[],r,_,h=>h
 | n,x::l,r,h1,h2=>by
  simp only [V.lowl,Bool.and_eq_true] at h1
  rw [List.cons_append,V.lowl,h1.1,o_l4 n l r h1.2 h2];rfl
theorem o_l5 (hv:Nat→Bool) (m:Nat):∀n k,V.lowl m (rowsF (fun i=>itemV (hv i)) k n)=true
 | 0,_=>rfl
 | n+1,k=>o_l4 _ _ _ (o_l3 _ _) (o_l5 hv m n (k+1))
theorem o_l6 (hv:Nat→Bool) {m:Nat} (hm:1<m):V.lowl m (mcs hv)=true:=by
 unfold mcs slV
 rw [V.lowl,o_l5]
 simp [V.low,hm]
theorem o_l7 (ρ:Nat→Nat):∀(l r:List V),V.rens ρ (l++r)=V.rens ρ l++V.rens ρ r
 | [],r=>rfl
 | x::l,r=>by rw [List.cons_append,V.rens,V.rens,o_l7 ρ l r,List.cons_append]
theorem o_l8 (ρ:Nat→Nat):∀(l:List D),V.rens ρ (l.map .d)=l.map .d
 | []=>rfl
 | x::l=>by rw [List.map_cons,V.rens,o_l8 ρ l];rfl
theorem o_l9 (ρ:Nat→Nat) (hv:Nat→Bool):∀n k,V.rens ρ (rowsF (fun i=>itemV (hv i)) k n)=rowsF (fun i=>itemV (hv i)) k n
 | 0,_=>rfl
 | n+1,k=>by rw [rowsF,o_l7,o_l9 ρ hv n (k+1)];unfold itemV;rw [o_l8]
theorem o_la {ρ:Nat→Nat} (hv:Nat→Bool) (h:ρ 1=1):V.rens ρ (mcs hv)=mcs hv:=by
 unfold mcs slV
 rw [V.rens,o_l9]
 simp [V.ren,h]
@[simp] theorem o_lb (hv:Nat→Bool):V.lowl 2 (mcs hv)=true:=o_l6 hv (by omega)
@[simp] theorem o_lc (hv:Nat→Bool) (L:Nat):V.rens (nameOf [0,1] L) (mcs hv)=mcs hv:=o_la hv (by simp [nameOf])
@[simp] theorem o_ld (hv:Nat→Bool):V.rens (fun i=>[0,1][i]?.getD 0) (mcs hv)=mcs hv:=o_la hv rfl
attribute [simp] o_l2
end
section
open Go.RowKit
def crcS (n:Nat):Nat:=if n%2=1 then (n/2) ^^^ 3988292384 else n/2
def crcR (n:Nat):Nat→Nat
 | 0=>n
 | k+1=>crcS (crcR n k)
theorem o_le {n:Nat} (h:n<4294967296):crcS n<4294967296:=by
 unfold crcS
 have h2:n/2<2^32:=by omega
 split
 ·exact Nat.xor_lt_two_pow (n:=32) h2 (by decide)
 ·omega
theorem o_lf {n:Nat} (h:n<4294967296):∀k,crcR n k<4294967296
 | 0=>h
 | k+1=>o_le (o_lf h k)
theorem wrap32 {n:Nat} (h:n<4294967296):IntKind.u32.wrap (n:Int)=n:=by
 unfold IntKind.wrap
 simp [IntKind.signed]
 omega
theorem o_lg {n:Nat} (h:n<4294967296):bits .and .u32 (n:Int) 1=((n%2:Nat):Int):=by
 show IntKind.u32.wrap (((BitVec.ofInt 32 n) &&& (BitVec.ofInt 32 ((1:Nat):Int))).toNat:Int)=_
 rw [BitVec.toNat_and,BitVec.ofInt_natCast,BitVec.ofInt_natCast,BitVec.toNat_ofNat,BitVec.toNat_ofNat,Nat.mod_eq_of_lt (by omega:n<2^32),Nat.mod_eq_of_lt (by decide:1<2^32),Nat.and_one_is_mod]
 exact wrap32 (by omega)
theorem o_lh {n:Nat} (h:n<4294967296):bits .xor .u32 (n:Int) 3988292384=((n ^^^ 3988292384:Nat):Int):=by
 show IntKind.u32.wrap (((BitVec.ofInt 32 n) ^^^ (BitVec.ofInt 32 ((3988292384:Nat):Int))).toNat:Int)=_
 rw [BitVec.toNat_xor,BitVec.ofInt_natCast,BitVec.ofInt_natCast,BitVec.toNat_ofNat,BitVec.toNat_ofNat,Nat.mod_eq_of_lt (by omega:n<2^32),Nat.mod_eq_of_lt (by decide:3988292384<2^32)]
 exact wrap32 (Nat.xor_lt_two_pow (n:=32) h (by decide))
def tabV (i:Nat):List V:=rowsF (fun j=>[.d (.int .u32 (if j<i then crcR j 8 else 0:Nat))]) 0 256
theorem o_li (i:Nat):(tabV i).length=256:=o_ku (s:=1) (fun _=>rfl) 256 0
theorem o_lj {i:Nat} (h:i<256):(tabV i).set i (.d (.int .u32 (crcR i 8:Nat)))=tabV (i+1):=by
 have:=o_kz (f:=fun j=>[V.d (.int .u32 (if j<i then crcR j 8 else 0:Nat))]) (g:=fun j=>[V.d (.int .u32 (if j<i+1 then crcR j 8 else 0:Nat))]) (s:=1) (fun _=>rfl) h rfl (fun j hj=>by
  by_cases h1:j<i
  ·rw [if_pos h1,if_pos (by omega)]
  ·rw [if_neg h1,if_neg (by omega)])
 rw [show i*1=i by omega,if_pos (by omega)] at this
 exact this
theorem o_lk (i m:Nat):∀n k,V.lowl m (rowsF (fun j=>[.d (.int .u32 (if j<i then crcR j 8 else 0:Nat))]) k n)=true
 | 0,_=>rfl
 | n+1,k=>o_l4 m [_] _ rfl (o_lk i m n (k+1))
@[simp] theorem o_ll (i m:Nat):V.lowl m (tabV i)=true:=o_lk i m 256 0
theorem o_lm:∀l:List D,V.toDs (l.map V.d)=some l
 | []=>rfl
 | x::l=>by rw [List.map_cons,V.toDs,o_lm l];rfl
theorem o_ln:tabV 256=((List.range 256).map fun j=>D.int .u32 (crcR j 8:Nat)).map V.d:=by kernel_rfl
theorem o_lo:tabV 0=(List.replicate 256 (D.int .u32 0)).map V.d:=by kernel_rfl
set_option maxHeartbeats 4000000 in
theorem o_lp:Eqn Tryz.prog o_bw [] [] (.d (.agg ((List.range 256).map fun j=>.int .u32 (crcR j 8:Nat)))) []:=by
 refine Eqn.pure o_by (o_5o _) ?_
 simp only [o_bx]
 refine A00 ?_;try with_reducible exact tt
 refine AW.loopE (α:=Nat) (fun i=>[.p 0 0,.p 1 0,.junk,.junk,.junk,.d (.int .i64 (i:Nat))]++List.replicate 21 .junk) (fun i=>[some ⟨519,tabV 0⟩,some ⟨519,tabV i⟩]) (fun i=>i≤256) (fun i=>256-i) 0 (fun _ _=>Nat.zero_le _) (Nat.zero_le _) ?_ ?_ ?_
 ·simp
 ·simp
  exact Subs.of o_lo.symm
 intro i hi
 have hl:=o_li i
 by_cases hi1:i<256
 rotate_left
 ·have hi2:¬(i:Int)<256:=by omega
  obtain rfl:i=256:=by omega
  have hds:V.toDs (List.take 256 (tabV 256))=some ((List.range 256).map fun j=>D.int .u32 (crcR j 8:Nat)):=by
   rw [List.take_of_length_le (by rw [hl];omega),o_ln]
   exact o_lm _
  have hLl:((List.range 256).map fun j=>D.int .u32 (crcR j 8:Nat)).length=256:=by simp
  generalize (List.range 256).map (fun j=>D.int .u32 (crcR j 8:Nat))=L at *
  have hL:L.length=256:=hLl
  have hl0:=o_li 0
  have hsm:setMany (tabV 0) 0 (List.map V.d L)=List.map V.d L:=by
   rw [o_l _ _ _ (by simp [hL,hl0])]
   simp [hL,hl0]
  have htk:V.toDs (List.take 256 (List.map V.d L))=some L:=by
   rw [List.take_of_length_le (by simp [hL])];exact o_lm L
  have hll:256≤(List.map V.d L).length:=by simp [hL]
  rw [List.length_map] at hll
  refine A10 (fs hi2 (fs hl (fs hds (fs hsm (fs hL (fs htk hll)))))) ?_;try with_reducible exact tt
 have hi2:(i:Int)<256:=by omega
 have hi3:i<4294967296:=by omega
 have hwi:=wrap32 hi3
 refine A10 (fs hi2 hwi) ?_;try with_reducible exact tt
 refine AW.loopE (α:=Nat) (fun k=>[.p 0 0,.p 1 0,.d (.int .i64 (i:Nat)),.d (.int .u32 (crcR i k:Nat)),.junk,.d (.int .i64 (i:Nat)),.junk,.junk,.junk,.junk,.d (.int .i64 (k:Nat))]++List.replicate 16 .junk) (fun _=>[some ⟨519,tabV 0⟩,some ⟨519,tabV i⟩]) (fun k=>k≤8) (fun k=>8-k) 0 (fun _ _=>Nat.zero_le _) (Nat.zero_le _) ?_ ?_ ?_
 ·simp [crcR]
 ·simp
 intro k hk
 have hn:=o_lf hi3 k
 by_cases hk1:k<8
 ·have hk2:(k:Int)<8:=by omega
  have hkw:IntKind.i64.wrap ((k:Int)+1)=(k:Int)+1:=w64 (by omega) (by omega)
  have ha:=o_lg hn
  have hx:=o_lh (n:=crcR i k/2) (by omega)
  have hs:crcR i (k+1)=crcS (crcR i k):=rfl
  unfold crcS at hs
  generalize crcR i k=n at *
  have hd:(n:Int)/2=((n/2:Nat):Int):=by omega
  by_cases ho:n%2=1
  ·rw [if_pos ho] at hs
   rw [ho] at ha
   rw [←hd] at hx
   clear hd
   generalize n/2 ^^^ 3988292384=m at *
   refine A10 (fs hk2 (fs ha (fs hx hkw))) ?_;try with_reducible exact tt
   exact ⟨k+1,by omega,by omega,by rw [hs];exact fun _ _ h=>h,by simp⟩
  ·rw [if_neg ho] at hs
   have ho0:n%2=0:=by omega
   rw [ho0] at ha
   refine A10 (fs hk2 (fs ha hkw)) ?_;try with_reducible exact tt
   exact ⟨k+1,by omega,by omega,by rw [hs,←hd];exact fun _ _ h=>h,by simp⟩
 ·have hk2:¬(k:Int)<8:=by omega
  obtain rfl:k=8:=by omega
  have hts:=o_lj hi1
  have hiw:IntKind.i64.wrap ((i:Int)+1)=(i:Int)+1:=w64 (by omega) (by omega)
  refine A10 (fs hk2 (fs hi2 (fs hl (fs hts (fs hi1 hiw))))) ?_;try with_reducible exact tt
  exact ⟨i+1,by omega,by omega,by simp,by simp⟩
def crcL:List D:=[0,1996959894,3993919788,2567524794,124634137,1886057615,3915621685,2657392035,249268274,2044508324,3772115230,2547177864,162941995,2125561021,3887607047,2428444049,498536548,1789927666,4089016648,2227061214,450548861,1843258603,4107580753,2211677639,325883990,1684777152,4251122042,2321926636,335633487,1661365465,4195302755,2366115317,997073096,1281953886,3579855332,2724688242,1006888145,1258607687,3524101629,2768942443,901097722,1119000684,3686517206,2898065728,853044451,1172266101,3705015759,2882616665,651767980,1373503546,3369554304,3218104598,565507253,1454621731,3485111705,3099436303,671266974,1594198024,3322730930,2970347812,795835527,1483230225,3244367275,3060149565,1994146192,31158534,2563907772,4023717930,1907459465,112637215,2680153253,3904427059,2013776290,251722036,2517215374,3775830040,2137656763,141376813,2439277719,3865271297,1802195444,476864866,2238001368,4066508878,1812370925,453092731,2181625025,4111451223,1706088902,314042704,2344532202,4240017532,1658658271,366619977,2362670323,4224994405,1303535960,984961486,2747007092,3569037538,1256170817,1037604311,2765210733,3554079995,1131014506,879679996,2909243462,3663771856,1141124467,855842277,2852801631,3708648649,1342533948,654459306,3188396048,3373015174,1466479909,544179635,3110523913,3462522015,1591671054,702138776,2966460450,3352799412,1504918807,783551873,3082640443,3233442989,3988292384,2596254646,62317068,1957810842,3939845945,2647816111,81470997,1943803523,3814918930,2489596804,225274430,2053790376,3826175755,2466906013,167816743,2097651377,4027552580,2265490386,503444072,1762050814,4150417245,2154129355,426522225,1852507879,4275313526,2312317920,282753626,1742555852,4189708143,2394877945,397917763,1622183637,3604390888,2714866558,953729732,1340076626,3518719985,2797360999,1068828381,1219638859,3624741850,2936675148,906185462,1090812512,3747672003,2825379669,829329135,1181335161,3412177804,3160834842,628085408,1382605366,3423369109,3138078467,570562233,1426400815,3317316542,2998733608,733239954,1555261956,3268935591,3050360625,752459403,1541320221,2607071920,3965973030,1969922972,40735498,2617837225,3943577151,1913087877,83908371,2512341634,3803740692,2075208622,213261112,2463272603,3855990285,2094854071,198958881,2262029012,4057260610,1759359992,534414190,2176718541,4139329115,1873836001,414664567,2282248934,4279200368,1711684554,285281116,2405801727,4167216745,1634467795,376229701,2685067896,3608007406,1308918612,956543938,2808555105,3495958263,1231636301,1047427035,2932959818,3654703836,1088359270,936918000,2847714899,3736837829,1202900863,817233897,3183342108,3401237130,1404277552,615818150,3134207493,3453421203,1423857449,601450431,3009837614,3294710456,1567103746,711928724,3020668471,3272380065,1510334235,755167117].map fun n=>.int .u32 n
theorem o_lq:(List.range 256).map (fun j=>D.int .u32 (crcR j 8:Nat))=crcL:=by kernel_rfl
def orL:List (FuncId×List V×V×List Ob):=[(o_bw,[],.d (.agg crcL),[])]
theorem o_lr:∀e∈orL,EqnD Tryz.prog e.1 e.2.1 [] e.2.2.1 e.2.2.2 []∧V.lowl 0 e.2.1=true:=by
 unfold orL
 simp only [List.forall_mem_cons]
 exact ⟨⟨o_lq▸o_lp,rfl⟩,by simp⟩
end
section
open Go.RowKit
def tblL:List (FuncId×C×List RV×Nat)→FuncId→Option (C×List RV×Nat)
 | [],_=>none
 | e::l,f=>match Nat.beq e.1 f with
  | true=>some e.2
  | false=>tblL l f
theorem o_ls {P:Program}:∀{l:List (FuncId×C×List RV×Nat)},(∀e∈l,fnOf P e.1=some (e.2.1,e.2.2.1,e.2.2.2,false))→∀f c rs nt,tblL l f=some (c,rs,nt)→fnOf P f=some (c,rs,nt,false)
 | e::l,hl,f,c,rs,nt,h=>by
  unfold tblL at h
  split at h
  ·rename_i hb
   have h1:=hl e (List.mem_cons_self ..)
   rw [Nat.eq_of_beq_eq_true hb] at h1
   have h2:e.2=(c,rs,nt):=Option.some.inj h
   rw [h1,h2]
  ·exact o_ls (fun x hx=>hl x (List.mem_cons_of_mem _ hx)) f c rs nt h
def tblK:List (FuncId×C×List RV×Nat):=[(o_6n,o_6o,[.cell 2 true 1],22),
 (o_6q,o_6r,[.cell 2 true 1],6),
 (o_6t,o_6u,[.t 2],8),
 (o_6w,o_6x,[.cell 4 true 2],13),
 (o_6z,o_70,[],47),
 (o_72,o_73,[.t 2],7),
 (o_75,o_76,[.cell 4 true 1],61),
 (o_78,o_79,[.t 4],47),
 (o_7b,o_7c,[.cell 2 true 1],8),
 (o_7e,o_7f,[.t 2],20),
 (o_7h,o_7i,[.t 2],39),
 (o_7k,o_7l,[.t 2],9),
 (o_7n,o_7o,[.cell 4 true 1],85),
 (o_7q,o_7r,[.t 2],5),
 (o_7t,o_7u,[.t 6],32),
 (o_7w,o_7x,[.t 2],9),
 (o_7z,o_80,[.t 4],13),
 (o_82,o_83,[.cell 2 true 3],10),
 (o_85,o_86,[.cell 4 true 2],16),
 (o_88,o_89,[.cell 2 true 2],6),
 (o_8b,o_8c,[.cell 4 true 1,.cell 5 true 1,.t 6],49),
 (o_8e,o_8f,[.t 4,.t 5],51),
 (o_8h,o_8i,[.t 4,.t 5],34),
 (o_8k,o_8l,[.t 6,.t 7],135),
 (o_8n,o_8o,[.t 2],12),
 (o_8q,o_8r,[.t 2],25),
 (o_8t,o_8u,[.t 2],10),
 (o_8w,o_8x,[.t 2],6),
 (o_8z,o_90,[.cell 2 true 1],5),
 (o_92,o_93,[.t 4],45),
 (o_95,o_96,[.cell 2 true 2],16),
 (o_98,o_99,[.cell 2 true 3],6),
 (o_9b,o_9c,[.t 4],16),
 (o_9e,o_9f,[.t 4],28),
 (o_9h,o_9i,[.t 4],18),
 (o_9k,o_9l,[.t 4],20),
 (o_9n,o_9o,[.cell 4 true 1,.t 5],51),
 (o_9q,o_9r,[.t 2],8),
 (o_9t,o_9u,[.cell 4 true 3],46),
 (o_9w,o_9x,[.cell 4 true 1],23),
 (o_9z,o_a0,[.t 2],5),
 (o_a2,o_a3,[.t 2],32),
 (o_a5,o_a6,[.t 2],6),
 (o_a8,o_a9,[],14),
 (o_ab,o_ac,[],148),
 (o_ae,o_af,[],53),
 (o_ah,o_ai,[.t 2],4),
 (o_ak,o_al,[.t 2],26),
 (o_an,o_ao,[.cell 4 true 3],22),
 (o_aq,o_ar,[.cell 4 true 2],48),
 (o_at,o_au,[.t 4],24),
 (o_aw,o_ax,[.t 2],6),
 (o_az,o_b0,[],13),
 (o_b2,o_b3,[.t 2,.t 3],75),
 (o_b5,o_b6,[.t 2],66),
 (o_b8,o_b9,[.t 2],10),
 (o_bb,o_bc,[.t 6],38),
 (o_be,o_bf,[.t 2,.t 3],17),
 (o_bh,o_bi,[.t 2],17),
 (o_bk,o_bl,[.t 2],23),
 (o_bn,o_bo,[.t 2],8),
 (o_bq,o_br,[.t 2],5),
 (o_bt,o_bu,[.t 4],30),
 (o_bz,o_c0,[.t 4],30),
 (o_c2,o_c3,[.t 2],18),
 (o_c5,o_c6,[.t 2],38),
 (o_c8,o_c9,[.t 4],8),
 (o_cb,o_cc,[.t 4],32),
 (o_ce,o_cf,[.t 2],15),
 (o_ch,o_ci,[.t 3],8),
 (o_ck,o_cl,[.t 2],7),
 (o_cn,o_co,[.cell 4 true 3],16),
 (o_cq,o_cr,[],68),
 (o_ct,o_cu,[.t 2],12),
 (o_cw,o_cx,[.t 2],9),
 (o_cz,o_d0,[.t 4],20),
 (o_d2,o_d3,[.t 4],14),
 (o_d5,o_d6,[.t 4],9),
 (o_d8,o_d9,[.t 4],19),
 (o_db,o_dc,[.t 2],16),
 (o_de,o_df,[.t 4],40),
 (o_dh,o_di,[.cell 2 true 3],10),
 (o_dk,o_dl,[.t 4],28),
 (o_dn,o_do,[.t 6,.t 7],30),
 (o_dq,o_dr,[.t 4,.t 5],52),
 (o_dt,o_du,[.t 2],7),
 (o_dw,o_dx,[],14),
 (o_dz,o_e0,[],148),
 (o_e2,o_e3,[],53),
 (o_e5,o_e6,[.t 2],16),
 (o_e8,o_e9,[.t 2],6),
 (o_eb,o_ec,[.t 2],12),
 (o_ee,o_ef,[.cell 2 true 2],8),
 (o_eh,o_ei,[.t 6,.t 7],109),
 (o_ek,o_el,[.t 6],44),
 (o_en,o_eo,[.t 6,.t 7],14),
 (o_eq,o_er,[.t 6,.t 7],43),
 (o_et,o_eu,[.t 3],7),
 (o_ew,o_ex,[.t 4],36),
 (o_ez,o_f0,[.cell 4 true 3,.t 5],27),
 (o_f2,o_f3,[.cell 4 true 3,.t 5],11),
 (o_f5,o_f6,[.cell 4 true 3,.t 5],27),
 (o_f8,o_f9,[.t 4],23),
 (o_fb,o_fc,[.t 4,.t 5],14),
 (o_fe,o_ff,[.cell 2 true 3,.t 3],20),
 (o_fh,o_fi,[.cell 4 true 1,.t 5],23),
 (o_fk,o_fl,[.t 4],38),
 (o_fn,o_fo,[.t 6],26),
 (o_fq,o_fr,[.t 6],20),
 (o_ft,o_fu,[.cell 4 true 3],13),
 (o_fw,o_fx,[.cell 2 true 2],9),
 (o_fz,o_g0,[.t 4],24),
 (o_g2,o_g3,[.t 4],36),
 (o_g5,o_g6,[.t 6,.t 7],22),
 (o_g8,o_g9,[.t 4],16),
 (o_gb,o_gc,[.t 6],79),
 (o_ge,o_gf,[.t 6],32),
 (o_gh,o_gi,[.t 3],13),
 (o_gk,o_gl,[.t 2],8),
 (o_gn,o_go,[.cell 8 true 2,.t 9],54),
 (o_gq,o_gr,[.cell 2 true 3],8),
 (o_gw,o_gx,[.t 0],57),
 (o_h2,o_h3,[.t 4,.t 5],157),
 (o_h5,o_h6,[.t 2],11),
 (o_h8,o_h9,[.cell 8 true 3,.t 9],55)]
theorem o_lt:∀e∈tblK,fnOf Tryz.prog e.1=some (e.2.1,e.2.2.1,e.2.2.2,false):=by
 unfold tblK
 refine List.forall_mem_cons.2 ⟨o_6p,?_⟩
 refine List.forall_mem_cons.2 ⟨o_6s,?_⟩
 refine List.forall_mem_cons.2 ⟨o_6v,?_⟩
 refine List.forall_mem_cons.2 ⟨o_6y,?_⟩
 refine List.forall_mem_cons.2 ⟨o_71,?_⟩
 refine List.forall_mem_cons.2 ⟨o_74,?_⟩
 refine List.forall_mem_cons.2 ⟨o_77,?_⟩
 refine List.forall_mem_cons.2 ⟨o_7a,?_⟩
 refine List.forall_mem_cons.2 ⟨o_7d,?_⟩
 refine List.forall_mem_cons.2 ⟨o_7g,?_⟩
 refine List.forall_mem_cons.2 ⟨o_7j,?_⟩
 refine List.forall_mem_cons.2 ⟨o_7m,?_⟩
 refine List.forall_mem_cons.2 ⟨o_7p,?_⟩
 refine List.forall_mem_cons.2 ⟨o_7s,?_⟩
 refine List.forall_mem_cons.2 ⟨o_7v,?_⟩
 refine List.forall_mem_cons.2 ⟨o_7y,?_⟩
 refine List.forall_mem_cons.2 ⟨o_81,?_⟩
 refine List.forall_mem_cons.2 ⟨o_84,?_⟩
 refine List.forall_mem_cons.2 ⟨o_87,?_⟩
 refine List.forall_mem_cons.2 ⟨o_8a,?_⟩
 refine List.forall_mem_cons.2 ⟨o_8d,?_⟩
 refine List.forall_mem_cons.2 ⟨o_8g,?_⟩
 refine List.forall_mem_cons.2 ⟨o_8j,?_⟩
 refine List.forall_mem_cons.2 ⟨o_8m,?_⟩
 refine List.forall_mem_cons.2 ⟨o_8p,?_⟩
 refine List.forall_mem_cons.2 ⟨o_8s,?_⟩
 refine List.forall_mem_cons.2 ⟨o_8v,?_⟩
 refine List.forall_mem_cons.2 ⟨o_8y,?_⟩
 refine List.forall_mem_cons.2 ⟨o_91,?_⟩
 refine List.forall_mem_cons.2 ⟨o_94,?_⟩
 refine List.forall_mem_cons.2 ⟨o_97,?_⟩
 refine List.forall_mem_cons.2 ⟨o_9a,?_⟩
 refine List.forall_mem_cons.2 ⟨o_9d,?_⟩
 refine List.forall_mem_cons.2 ⟨o_9g,?_⟩
 refine List.forall_mem_cons.2 ⟨o_9j,?_⟩
 refine List.forall_mem_cons.2 ⟨o_9m,?_⟩
 refine List.forall_mem_cons.2 ⟨o_9p,?_⟩
 refine List.forall_mem_cons.2 ⟨o_9s,?_⟩
 refine List.forall_mem_cons.2 ⟨o_9v,?_⟩
 refine List.forall_mem_cons.2 ⟨o_9y,?_⟩
 refine List.forall_mem_cons.2 ⟨o_a1,?_⟩
 refine List.forall_mem_cons.2 ⟨o_a4,?_⟩
 refine List.forall_mem_cons.2 ⟨o_a7,?_⟩
 refine List.forall_mem_cons.2 ⟨o_aa,?_⟩
 refine List.forall_mem_cons.2 ⟨o_ad,?_⟩
 refine List.forall_mem_cons.2 ⟨o_ag,?_⟩
 refine List.forall_mem_cons.2 ⟨o_aj,?_⟩
 refine List.forall_mem_cons.2 ⟨o_am,?_⟩
 refine List.forall_mem_cons.2 ⟨o_ap,?_⟩
 refine List.forall_mem_cons.2 ⟨o_as,?_⟩
 refine List.forall_mem_cons.2 ⟨o_av,?_⟩
 refine List.forall_mem_cons.2 ⟨o_ay,?_⟩
 refine List.forall_mem_cons.2 ⟨o_b1,?_⟩
 refine List.forall_mem_cons.2 ⟨o_b4,?_⟩
 refine List.forall_mem_cons.2 ⟨o_b7,?_⟩
 refine List.forall_mem_cons.2 ⟨o_ba,?_⟩
 refine List.forall_mem_cons.2 ⟨o_bd,?_⟩
 refine List.forall_mem_cons.2 ⟨o_bg,?_⟩
 refine List.forall_mem_cons.2 ⟨o_bj,?_⟩
 refine List.forall_mem_cons.2 ⟨o_bm,?_⟩
 refine List.forall_mem_cons.2 ⟨o_bp,?_⟩
 refine List.forall_mem_cons.2 ⟨o_bs,?_⟩
 refine List.forall_mem_cons.2 ⟨o_bv,?_⟩
 refine List.forall_mem_cons.2 ⟨o_c1,?_⟩
 refine List.forall_mem_cons.2 ⟨o_c4,?_⟩
 refine List.forall_mem_cons.2 ⟨o_c7,?_⟩
 refine List.forall_mem_cons.2 ⟨o_ca,?_⟩
 refine List.forall_mem_cons.2 ⟨o_cd,?_⟩
 refine List.forall_mem_cons.2 ⟨o_cg,?_⟩
 refine List.forall_mem_cons.2 ⟨o_cj,?_⟩
 refine List.forall_mem_cons.2 ⟨o_cm,?_⟩
 refine List.forall_mem_cons.2 ⟨o_cp,?_⟩
 refine List.forall_mem_cons.2 ⟨o_cs,?_⟩
 refine List.forall_mem_cons.2 ⟨o_cv,?_⟩
 refine List.forall_mem_cons.2 ⟨o_cy,?_⟩
 refine List.forall_mem_cons.2 ⟨o_d1,?_⟩
 refine List.forall_mem_cons.2 ⟨o_d4,?_⟩
 refine List.forall_mem_cons.2 ⟨o_d7,?_⟩
 refine List.forall_mem_cons.2 ⟨o_da,?_⟩
 refine List.forall_mem_cons.2 ⟨o_dd,?_⟩
 refine List.forall_mem_cons.2 ⟨o_dg,?_⟩
 refine List.forall_mem_cons.2 ⟨o_dj,?_⟩
 refine List.forall_mem_cons.2 ⟨o_dm,?_⟩
 refine List.forall_mem_cons.2 ⟨o_dp,?_⟩
 refine List.forall_mem_cons.2 ⟨o_ds,?_⟩
 refine List.forall_mem_cons.2 ⟨o_dv,?_⟩
 refine List.forall_mem_cons.2 ⟨o_dy,?_⟩
 refine List.forall_mem_cons.2 ⟨o_e1,?_⟩
 refine List.forall_mem_cons.2 ⟨o_e4,?_⟩
 refine List.forall_mem_cons.2 ⟨o_e7,?_⟩
 refine List.forall_mem_cons.2 ⟨o_ea,?_⟩
 refine List.forall_mem_cons.2 ⟨o_ed,?_⟩
 refine List.forall_mem_cons.2 ⟨o_eg,?_⟩
 refine List.forall_mem_cons.2 ⟨o_ej,?_⟩
 refine List.forall_mem_cons.2 ⟨o_em,?_⟩
 refine List.forall_mem_cons.2 ⟨o_ep,?_⟩
 refine List.forall_mem_cons.2 ⟨o_es,?_⟩
 refine List.forall_mem_cons.2 ⟨o_ev,?_⟩
 refine List.forall_mem_cons.2 ⟨o_ey,?_⟩
 refine List.forall_mem_cons.2 ⟨o_f1,?_⟩
 refine List.forall_mem_cons.2 ⟨o_f4,?_⟩
 refine List.forall_mem_cons.2 ⟨o_f7,?_⟩
 refine List.forall_mem_cons.2 ⟨o_fa,?_⟩
 refine List.forall_mem_cons.2 ⟨o_fd,?_⟩
 refine List.forall_mem_cons.2 ⟨o_fg,?_⟩
 refine List.forall_mem_cons.2 ⟨o_fj,?_⟩
 refine List.forall_mem_cons.2 ⟨o_fm,?_⟩
 refine List.forall_mem_cons.2 ⟨o_fp,?_⟩
 refine List.forall_mem_cons.2 ⟨o_fs,?_⟩
 refine List.forall_mem_cons.2 ⟨o_fv,?_⟩
 refine List.forall_mem_cons.2 ⟨o_fy,?_⟩
 refine List.forall_mem_cons.2 ⟨o_g1,?_⟩
 refine List.forall_mem_cons.2 ⟨o_g4,?_⟩
 refine List.forall_mem_cons.2 ⟨o_g7,?_⟩
 refine List.forall_mem_cons.2 ⟨o_ga,?_⟩
 refine List.forall_mem_cons.2 ⟨o_gd,?_⟩
 refine List.forall_mem_cons.2 ⟨o_gg,?_⟩
 refine List.forall_mem_cons.2 ⟨o_gj,?_⟩
 refine List.forall_mem_cons.2 ⟨o_gm,?_⟩
 refine List.forall_mem_cons.2 ⟨o_gp,?_⟩
 refine List.forall_mem_cons.2 ⟨o_gs,?_⟩
 refine List.forall_mem_cons.2 ⟨o_gy,?_⟩
 refine List.forall_mem_cons.2 ⟨o_h4,?_⟩
 refine List.forall_mem_cons.2 ⟨o_h7,?_⟩
 refine List.forall_mem_cons.2 ⟨o_ha,?_⟩
 exact List.forall_mem_nil _
theorem o_lu {l:List (FuncId×List V×V×List Ob)} (hl:∀e∈l,EqnD Tryz.prog e.1 e.2.1 [] e.2.2.1 e.2.2.2 []∧V.lowl 0 e.2.1=true) {f:FuncId} {args:List V} {Hs:List Ob} {X:V} {Hs':List Ob} {dead:List Nat} (h:evF (tblL tblK) fzK (evCl (tblL tblK) fzK (orcE l (orcB o_hf o_hh o_6t)) (mtL mlF) 3000 60) (mtL mlF) 3000 f args Hs=some (X,Hs',dead)):EqnD Tryz.prog f args Hs X Hs' dead :=
 o_kj mix (o_ls o_lt) (o_kl mix (o_ls o_lt) (o_ks hl o_ko) (o_kn o_kt) 60) (o_kn o_kt) h
end
end Go.Proofs.YtpobgdipcbglcaaGreatDoor.Am
