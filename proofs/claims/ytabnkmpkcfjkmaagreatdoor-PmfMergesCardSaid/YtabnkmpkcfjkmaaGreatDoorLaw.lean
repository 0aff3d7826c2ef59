/- Parts of the proof: WuA, PtE, PtF, PtG, FalC, TmnA, WuB, WuC, WuL, PmL. -/
import Derived.Test.YtabnkmpkcfjkmaaGreatDoorPf
set_option linter.unusedVariables false
set_option linter.unusedSimpArgs false
set_option maxRecDepth 100000
namespace Go.Proofs.YtabnkmpkcfjkmaaGreatDoor.Am
section
theorem o_19i {ask:List Bool→St×Int} {Q:Sp} (hu:Uq Q) (f:CP St) (key:∀pre,match f.O pre with
  | some (r,c)=>ask pre=(r,0)
  | none=>(ask pre).2=8) (hE:∀g,f.E g=exQ g Q):LawOK (walkN ask 11 [] ([],0)).1 (walkN ask 11 [] ([],0)).2 Q:=by
 refine o_18y (fun s pre=>f.D pre fun r=>if r=s then 1 else 0) (fun s pre=>CP.d3 _ _ _ fun r=>by split<;>decide) (fun s pre h=>?_) (fun s pre h=>?_) fun s=>?_
 ·refine CP.d2 _ _ _ ?_
  have hk:=key pre
  cases ho:f.O pre with
  | none=>rfl
  | some rc =>
   rw [ho] at hk
   simp only at hk
   rw [hk] at h
   cases h
 ·have hk:=key pre
  cases ho:f.O pre with
  | none=>rw [ho] at hk;simp only at hk;rw [hk] at h;cases h
  | some rc =>
   rw [ho] at hk
   obtain ⟨r,c⟩:=rc
   simp only at hk
   rw [CP.d1 _ _ _ _ _ ho,hk]
   simp only [eq_comm]
 ·rw [show f.D [] _=_ from hE _,o_10m s _ hu]
def trH (R:TR):St×Int×Nat×Bool:=((R.y,R.t,R.f),R.e,R.p,R.d)
theorem o_19j {α β:Type} {F:List Bool→Nat→Bool→α×Int×Nat×Bool} {f:CP α} (hf:Runs F f) (u:α→β) {H:List Bool→Nat→Bool→β×Int×Nat×Bool} (h:∀cs p,H cs p false=(u (F cs p false).1,(F cs p false).2)):Runs H (f.bind fun a=>.pure (u a)):=by
 refine o_11i hf (G:=fun a cs p d=>(u a,0,p,d)) (fun a=>o_11j (u a)) (fun cs p hp he=>?_) fun cs p hp he=>?_
 ·rw [h,←he]
 ·rw [h];exact he
theorem map_E {α β:Type} (f:CP α) (u:α→β) (g:β→Rat):(f.bind fun a=>.pure (u a)).E g=f.E fun a=>g (u a):=by rw [CP.bind_E];rfl
def agP (k a x r:Nat):CP Bool:=if k=1 then powP (a+1) a (x-r) else halfP (expOf k a x-expOf k a r)
theorem o_19k {k a w:Nat} (h:GoodS k a w) (x r:Nat):Runs (fun cs p d=>agOf cs k a x r p d) (agP k a x r):=fun cs p hp=>by
 unfold agP
 by_cases hk:k=1
 ·have ha:a≠0:=by have:=h.1;omega
  simp only [if_pos hk,agOf]
  exact o_11l (a+1) a ha (x-r) cs p hp
 ·have hag:agOf cs k a x r p false=halfR cs (expOf k a x-expOf k a r) p false:=by
   unfold agOf expOf
   rw [if_neg hk]
   split<;>rfl
  simp only [if_neg hk,hag]
  exact o_115 (expOf k a x-expOf k a r) cs p hp
theorem o_19l (a n:Nat):((a:Rat)/((a+1:Nat):Rat))^n=chM a n:=by
 unfold chM
 rw [Rat.mkRat_eq_div]
 rfl
theorem agP_E {k a w:Nat} (h:GoodS k a w) {x r:Nat} (hr:r≤x) (hx:x≤15) (g:Bool→Rat):(agP k a x r).E g=ratC k a r x*g true+(1-ratC k a r x)*g false:=by
 unfold agP ratC
 rw [if_pos hr]
 by_cases hk:k=1
 ·rw [if_pos hk,pow_E (Nat.lt_succ_self a) g (x-r),o_19l]
  unfold chP
  rw [if_pos hk,if_pos hk,o_15c (gs_a h hk).1 hr]
 ·rw [if_neg hk,o_116]
  unfold chP
  rw [if_neg hk,if_neg hk,o_159 (o_156 h hk hr hx)]
def cmP (k a top:Nat):Nat→Nat→Nat→Bool→CP (Nat×Bool)
 | 0,r,x,f=>.pure (x,f)
 | n+1,r,x,f=>if x=top then cmP k a top n (r+1) x true else (agP k a x r).bind fun b=>cmP k a top n (r+1) (if b then x+1 else x) f
def cmH (k a top n r x:Nat) (f:Bool) (cs:List Bool) (p:Nat) (d:Bool):(Nat×Bool)×Int×Nat×Bool:=(((mergeL (agOf cs k a) top n r x f p d).2.1,(mergeL (agOf cs k a) top n r x f p d).2.2.1),(mergeL (agOf cs k a) top n r x f p d).1,(mergeL (agOf cs k a) top n r x f p d).2.2.2.1,(mergeL (agOf cs k a) top n r x f p d).2.2.2.2)
theorem o_19m {k a w:Nat} (h:GoodS k a w) (top:Nat):∀n r x f,Runs (cmH k a top n r x f) (cmP k a top n r x f)
 | 0,r,x,f=>fun cs p hp=>rfl
 | n+1,r,x,f=>by
  unfold cmP
  by_cases hxt:x=top
  ·rw [if_pos hxt]
   have ih:=o_19m h top n (r+1) x true
   intro cs p hp
   have e:cmH k a top (n+1) r x f cs p false=cmH k a top n (r+1) x true cs p false:=by
    unfold cmH
    rw [mergeL,if_pos hxt]
   rw [e]
   exact ih cs p hp
  ·rw [if_neg hxt]
   refine o_11i (o_19k h x r) (G:=fun b=>cmH k a top n (r+1) (if b then x+1 else x) f) (fun b=>o_19m h top n (r+1) _ f) (fun cs p hp he=>?_) fun cs p hp he=>?_
   ·unfold cmH
    rw [mergeL,if_neg hxt,if_pos he]
   ·unfold cmH
    rw [mergeL,if_neg hxt,if_neg (by rw [he];decide)]
    exact he
def clsQ (next:Nat→St→Sp) (s:St):Nat→Sp
 | 0=>[(s,1)]
 | n+1=>timesQ (next n) (clsQ next s n)
theorem o_19n:∀(n:Nat) (next:Nat→St→Sp) (g:St→Rat) (s:St),exQ g (clsQ next s (n+1))=exQ (fun t=>exQ g (clsQ (fun i=>next (i+1)) t n)) (next 0 s)
 | 0,next,g,s=>by
  show exQ g (timesQ (next 0) [(s,1)])=exQ (fun t=>exQ g [(t,1)]) (next 0 s)
  rw [o_10r]
  have e:∀t:St,exQ g [(t,1)]=g t:=fun t=>by simp only [exQ];grind
  rw [o_11m e]
  simp only [exQ];grind
 | n+1,next,g,s=>by
  show exQ g (timesQ (next (n+1)) (clsQ next s (n+1)))=exQ (fun t=>exQ g (timesQ (next (n+1)) (clsQ (fun i=>next (i+1)) t n))) (next 0 s)
  rw [o_10r,o_19n n next (fun t=>exQ g (next (n+1) t)) s]
  exact o_11m (fun t=>(o_10r g (next (n+1)) _).symm) _
theorem o_19o (top k a:Nat) (s:St):∀r,clQ top k a s r=clsQ (fun i=>stepQ top (ratC k a i)) s r
 | 0=>rfl
 | r+1=>by
  show timesQ _ _=timesQ _ _
  rw [o_19o top k a s r]
theorem cmP_E {k a w:Nat} (h:GoodS k a w) {top:Nat} (ht:top≤15) (g:Nat×Bool→Rat):∀(n r x:Nat) (f:Bool),x≤top→r≤x→r+n≤top→(f=true→x=top)→(cmP k a top n r x f).E g=exQ (fun s=>g (s.1,s.2.2)) (clsQ (fun i=>stepQ top (ratC k a (r+i))) (x,0,f) n)
 | 0,r,x,f,h1,h2,h3,h4=>by
  show g (x,f)=_
  simp only [clsQ,exQ];grind
 | n+1,r,x,f,h1,h2,h3,h4=>by
  have e:(fun i=>stepQ top (ratC k a (r+(i+1))))=fun i=>stepQ top (ratC k a (r+1+i)):=funext fun i=>by rw [show r+(i+1)=r+1+i by omega]
  rw [o_19n,(o_10t _ top _ (x,0,f)).2,e]
  unfold cmP
  by_cases hxt:x=top
  ·rw [if_pos hxt,if_pos hxt]
   exact cmP_E h ht g n (r+1) x true h1 (by omega) (by omega) fun _=>hxt
  ·have hf0:f=false:=by
    cases f with
    | false=>rfl
    | true=>exact absurd (h4 rfl) hxt
   subst hf0
   rw [if_neg hxt,if_neg hxt,CP.bind_E,agP_E h h2 (by omega)]
   have i1:=cmP_E h ht g n (r+1) (x+1) false (by omega) (by omega) (by omega) (by simp)
   simp only [Bool.false_eq_true,if_false,if_true,Nat.add_zero]
   rw [i1]
   by_cases hrx:r=x
   ·subst hrx
    rw [o_15n h (by omega)]
    grind
   ·rw [cmP_E h ht g n (r+1) x false h1 (by omega) (by omega) (by simp)]
theorem thP_E (g:Nat×Nat→Rat) (f:Bool):∀(n y t:Nat),(thP n y t).E g=exQ (fun s=>g (s.1,s.2.1)) (thinQ (y,t,f) n)
 | 0,y,t=>by
  show g (y,t)=_
  simp only [thinQ,ofQ,exQ];grind
 | n+1,y,t=>by
  unfold thinQ
  rw [o_11n]
  show ((bnP y 0).bind fun z=>thP n z (t+1)).E g=_
  rw [CP.bind_E,bnP_E,o_197]
  congr 1
  funext z
  rw [Nat.zero_add]
  exact thP_E g f n z (t+1)
def mgR (K A B:Nat) (s o:St):Sp:=if K=4 then mgT A B s o else mgQ (topC B) K A s o
def rgM (K A B:Nat) (s o:St):CP St:=if K=4 then (thP (o.2.1-s.2.1) s.1 s.2.1).bind fun a=>(thP (s.2.1-o.2.1) o.1 o.2.1).bind fun b=>dnP A B (B-a.2+1) (a.1+b.1) a.2 (s.2.2 || o.2.2) else (cmP K A (topC B) o.1 0 s.1 s.2.2).bind fun r=>.pure (r.1,0,r.2 || o.2.2)
theorem o_19p {K A B:Nat} (hsr:SmallR K A B) (s o:St):Runs (fun cs p d=>trH (mergeRM cs K A B s.1 s.2.1 s.2.2 o.1 o.2.1 o.2.2 p d)) (rgM K A B s o):=by
 obtain ⟨y,t,f⟩:=s
 obtain ⟨z,u,g⟩:=o
 unfold rgM mergeRM
 by_cases hk:K=4
 ·simp only [if_pos hk]
  refine o_11i (o_192 f (u-t) y t) (G:=fun a cs p d=>trH (if (thinM cs g (t-u) z u p d).e=0 then downM cs A B (B-a.2+1) (a.1+(thinM cs g (t-u) z u p d).y) a.2 (f || g) (thinM cs g (t-u) z u p d).p (thinM cs g (t-u) z u p d).d else thinM cs g (t-u) z u p d)) (fun a=>?_) (fun cs p hp he=>?_) fun cs p hp he=>?_
  ·refine o_11i (o_192 g (t-u) z u) (G:=fun b=>dnH A B (B-a.2+1) (a.1+b.1) a.2 (f || g)) (fun b=>o_193 A B _ _ _ _) (fun cs p hp he=>?_) fun cs p hp he=>?_
   ·replace he:(thinM cs g (t-u) z u p false).e=0:=he
    simp only [if_pos he]
    rfl
   ·replace he:(thinM cs g (t-u) z u p false).e=8:=he
    rw [if_neg (by rw [he];decide)]
    exact he
  ·replace he:(thinM cs f (u-t) y t p false).e=0:=he
   unfold mergeTM
   simp only [if_pos he]
   rfl
  ·replace he:(thinM cs f (u-t) y t p false).e=8:=he
   unfold mergeTM
   simp only
   rw [if_neg (by rw [he];decide)]
   exact he
 ·simp only [if_neg hk]
  rcases hsr with ⟨h,-⟩ | ⟨-,hG⟩
  ·exact absurd h hk
  exact o_19j (o_19m hG (topC B) z 0 y f) (fun r=>(r.1,0,r.2 || g)) fun cs p=>rfl
theorem rgM_E {K A B:Nat} (hsr:SmallR K A B) {s o:St} (hs:WellR K A B s.1 s.2.1 s.2.2) (ho:WellR K A B o.1 o.2.1 o.2.2) (g:St→Rat):(rgM K A B s o).E g=exQ g (mgR K A B s o):=by
 unfold rgM mgR
 by_cases hk:K=4
 ·simp only [if_pos hk]
  rcases hs with ⟨-,hs⟩ | ⟨h,-⟩
  rotate_left
  ·exact absurd hk h
  rcases ho with ⟨-,ho⟩ | ⟨h,-⟩
  rotate_left
  ·exact absurd hk h
  obtain ⟨y,t,f⟩:=s
  obtain ⟨z,u,fo⟩:=o
  unfold mgT
  rw [o_10r,o_17q,ex_at,CP.bind_E,thP_E _ f]
  refine o_17f fun p hp=>?_
  rw [ex_at,CP.bind_E,thP_E _ fo]
  refine o_17f fun q hq=>?_
  have h1:=((SpOK.thin (y,t,f) (u-t)).ky p hp).2
  have h2:p.1.2.1=t+(u-t):=by rw [h1]
  have h3:=hs.2.1
  have h4:=ho.2.1
  simp only at h3 h4
  exact dn_E A B g _ _ _ _ (by simp only [h2];omega) (by simp only [h2];omega)
 ·simp only [if_neg hk]
  rcases hsr with ⟨h,-⟩ | ⟨-,hG⟩
  ·exact absurd h hk
  rcases hs with ⟨h,-⟩ | ⟨-,h1,h2,h3⟩
  ·exact absurd h hk
  rcases ho with ⟨h,-⟩ | ⟨-,h4,h5,h6⟩
  ·exact absurd h hk
  have hb:topC B≤15:=by
   have h3:2^B≤2^4:=Nat.pow_le_pow_right (by decide) hG.2.2
   unfold topC;omega
  obtain ⟨y,t,f⟩:=s
  obtain ⟨z,u,fo⟩:=o
  simp only at h1 h2 h3 h4 h5 h6
  subst h1
  unfold mgQ
  have e:=cmP_E hG hb (fun r=>g (r.1,0,r.2 || fo)) z 0 y f h2 (Nat.zero_le _) (by rw [Nat.zero_add];exact h5) h3
  simp only [Nat.zero_add] at e
  rw [o_10r,o_19o,map_E,e,←o_19o]
  refine o_17f fun p hp=>?_
  have h2:p.1.2.1=0:=((cl_ok hG ⟨h2,rfl,h3⟩ z p hp).1).2.1
  obtain ⟨⟨p1,p2,p3⟩,q⟩:=p
  simp only at h2
  subst h2
  simp only [fullQ,exQ];grind
end
section
open Go.RowKit
theorem o_19q {D C M:Nat} {out:Sp} (h:∀p∈out,Gr D C p.2) {s:St} {x:Rat} (hx:Gr D M x):∀p∈addQ out s x,Gr D (C+M) p.2:=by
 intro p hp
 rcases o_10u hp with hp | rfl
 ·exact (h p hp).le (by omega)
 ·exact (o_14e h _).add hx
theorem o_19r {D C:Nat} {f:Bool} {x:St×Rat} {B out:Sp} (ho:∀p∈out,Gr D C p.2) (hB:∀y∈B,Gr D 1 (x.2*y.2)):∀j,j≤B.length→∀p∈joI f x B out j,Gr D (C+j) p.2
 | 0,_=>fun p hp=>ho p (by simpa [joI] using hp)
 | j+1,hj=>by
  rw [o_17m f x B out j hj]
  exact o_19q (o_19r ho hB j (by omega)) (hB _ (List.getElem_mem _))
theorem o_19s {D:Nat} {f:Bool} {A B:Sp} (hAB:∀x∈A,∀y∈B,Gr D 1 (x.2*y.2)):∀i,i≤A.length→∀p∈joO f A B i,Gr D (i*B.length) p.2
 | 0,_=>fun p hp=>by simp [joO] at hp
 | i+1,hi=>by
  rw [o_17n f A B i hi,Nat.add_mul,Nat.one_mul]
  exact o_19r (o_19s hAB i (by omega)) (hAB _ (List.getElem_mem _)) _ (Nat.le_refl _)
theorem o_19t (s:St):∀n,(thinQ s n).length≤s.1+1
 | n=>by
  have h:=SpOK.thin s n
  have h1:((thinQ s n).map (·.1)).length≤((List.range (s.1+1)).map fun k=>((k,s.2.1+n,s.2.2):St)).length:=by
   refine List.Nodup.length_le_of_subset h.uq fun t ht=>?_
   obtain ⟨p,hp,rfl⟩:=List.mem_map.1 ht
   obtain ⟨h1,h2⟩:=h.ky p hp
   refine List.mem_map.2 ⟨p.1.1,List.mem_range.2 (by omega),?_⟩
   rw [←h2]
  simpa using h1
set_option maxHeartbeats 4000000 in
theorem o_19u (s:St) (z:Int) (n:Nat) (hz:max 0 z=n) (hK:s.1≤900) (hT:s.2.1+n≤1000) (hKn:(n+1)*s.1≤80000):Eqn Tryz.prog o_ez [.d (.agg (stD s)),.d (.int .i64 z)] [] (.mp 0) [spO (thinQ s n)]:=by
 have hsu:=o_11z s
 rw [show [(s,(1:Rat))]=thinQ s 0 from rfl] at hsu
 have hti:∀i,i<n→Eqn Tryz.prog o_ay [.mp 0,.fn (.func o_gz) []] [spO (thinQ s i)] (.mp 1) [spO (thinQ s i),spO (thinQ s (i+1))]:=fun i hi=>by
  have h:=SpOK.thin s i
  have hl:=o_19t s i
  have hcl:∀t:St,(t.1≤s.1∧t.2=(s.2.1+i,s.2.2))→NextJ binQ (2^s.1) 1000 t∧Eqn Tryz.prog o_gz [.d (.agg (stD t))] [] (.mp 0) [spO (binQ t)]:=fun t ht =>
   ⟨((SpOK.bin t).mono ht.1 fun _ h=>h).nextJ (Nat.le_trans (o_189 t _) (by omega)) (by omega),o_186 t (by omega) (by rw [ht.2];simp only;omega)⟩
  have hef:i*s.1+s.1≤90000:=by
   have h1:(i+1)*s.1≤(n+1)*s.1:=Nat.mul_le_mul_right _ (by omega)
   rw [Nat.add_mul,Nat.one_mul] at h1
   omega
  exact o_188 (f:=o_gz) (next:=binQ) (fun t:St=>t.1≤s.1∧t.2=(s.2.1+i,s.2.2)) (thinQ s i) (2^s.1) (2^(i*s.1)) 1 1000 1000 (1000*1000) h.uq (fun p hp=>h.ky p (List.mem_filter.1 hp).1) h.nz (Nat.le_trans (List.length_filter_le _ _) (Nat.le_trans hl (by omega))) (Nat.le_trans hl (by omega)) (Nat.two_pow_pos _) (Nat.le_refl _) h.gr (Nat.two_pow_pos _) hcl (o_18c (by omega) (by omega) hef) (by omega) (by omega)
 refine Eqn.gen [1] o_f1 (by simp) (by simp) (by rfl) (by decide) (by simp) (by simp [spO]) ?_
 refine cc (c':=?z301) ?_ ?_
 case refine_1=>cbv<;>exact rfl
 try simp only [spO,stD] at hsu hti ⊢
 refine A00 ?_;try with_reducible exact tt
 refine CallS.nX (hsu) (R1 hz ?_);try with_reducible exact tt
 refine A10 hz ?_;try with_reducible exact tt
 refine AW.loopG (α:=Nat) (fun i=>setS (List.replicate 16 .junk) [(1,.d (.int .i64 z)),(2,.p 0 0),(5,.mp 1),(9,.d (.int .i64 n)),(10,.d (.int .i64 (i:Nat)))]) (fun i=>[some ⟨64,[.d (.int .i64 s.1),.d (.int .i64 s.2.1),.d (.bool s.2.2)]⟩,some ⟨1000391,(spD rcD (thinQ s i)).map .d⟩]) (fun i=>i≤n) (fun i=>n-i) 0 ?_ (Nat.zero_le _) ?_ ?_ ?_
 ·intro i hi;simp
 ·simp
 ·simp
 rintro i hi
 simp
 by_cases hi2:i<n
 ·have hi3:(i:Int)<n:=by omega
  have ew:IntKind.i64.wrap ((i:Int)+1)=((i+1:Nat):Int):=by rw [w64 (by omega) (by omega)];omega
  have ht:=hti i hi2
  refine A10 (fs hi2 hi3) ?_;try with_reducible exact tt
  refine CallS.g [1] (ht) (R1 ew ?_);try with_reducible exact tt
  refine A10 ew ?_;try with_reducible exact tt
  refine ⟨i+1,1,2,by omega,by omega,by omega,?_,?_⟩
  ·simp [swT,swH,sw,Ob.sw,V.ren,V.rens]
  ·simp [swT,swH,sw,Ob.sw,V.ren,V.rens]
 ·have h2:i=n:=by omega
  subst h2
  refine A00 ?_;try with_reducible exact tt
  done
end
section
open Go.RowKit
set_option maxHeartbeats 8000000 in
theorem o_19v {A B:Nat} (h:ThS A B) (s o:St) (hs:okT A B s) (ho:okT A B o):Eqn Tryz.prog o_b4 [.d (parD 4 A B),.d (.agg (stD s)),.d (.agg (stD o))] [] (.mp 0) [spO (mgT A B s o)]:=by
 obtain ⟨s1,s2,s3⟩:=hs
 obtain ⟨o1,o2,o3⟩:=ho
 have hb9:=h.b
 have ha9:=h.a
 have hn:=h.n
 have hAB:(B+1)*A≤1000:=by
  have e1:(A+1)*(B+1)=A*(B+1)+(B+1):=by rw [Nat.add_mul,Nat.one_mul]
  rw [Nat.mul_comm]
  omega
 obtain ⟨na,hna⟩:∃na,na=o.2.1-s.2.1:=⟨_,rfl⟩
 obtain ⟨nb,hnb⟩:∃nb,nb=s.2.1-o.2.1:=⟨_,rfl⟩
 have hka:(na+1)*s.1≤1000:=Nat.le_trans (Nat.mul_le_mul (show na+1≤B+1 by omega) s1) hAB
 have hkb:(nb+1)*o.1≤1000:=Nat.le_trans (Nat.mul_le_mul (show nb+1≤B+1 by omega) o1) hAB
 have hta:=o_19u s ((o.2.1:Int)-s.2.1) na (by omega) (by omega) (by omega) (by omega)
 have htb:=o_19u o ((s.2.1:Int)-o.2.1) nb (by omega) (by omega) (by omega) (by omega)
 have ha:=SpOK.thin s na
 have hb:=SpOK.thin o nb
 have haat:=o_141 (thinQ s na) ha.uq ha.nz (Nat.le_trans (o_19t s na) (by omega)) (ha.rs (by rw [Nat.add_mul] at hka;omega))
 have hbat:=o_141 (thinQ o nb) hb.uq hb.nz (Nat.le_trans (o_19t o nb) (by omega)) (hb.rs (by rw [Nat.add_mul] at hkb;omega))
 have hA:=ha.at
 have hB:=hb.at
 have hAl:(atQ (thinQ s na)).length≤1000:=Nat.le_trans (o_14j _) (Nat.le_trans (o_19t s na) (by omega))
 have hBl:(atQ (thinQ o nb)).length≤1000:=Nat.le_trans (o_14j _) (Nat.le_trans (o_19t o nb) (by omega))
 have hrA:=hA.rs (by rw [Nat.add_mul] at hka;omega)
 have hrB:=hB.rs (by rw [Nat.add_mul] at hkb;omega)
 have hmg:mgT A B s o=timesQ (downA A B) (joQ (s.2.2 || o.2.2) (atQ (thinQ s na)) (atQ (thinQ o nb))):=by rw [hna,hnb];rfl
 obtain ⟨FF,hFF⟩:∃FF,FF=(s.2.2 || o.2.2):=⟨_,rfl⟩
 rw [←hFF] at hmg
 have hj:SpOK (na*s.1+nb*o.1) (fun t=>t.1≤A+A∧t.2=(max s.2.1 o.2.1,FF)) (joQ FF (atQ (thinQ s na)) (atQ (thinQ o nb))):=hA.join hB fun t u ht hu=>⟨by simp only;omega,by simp only [ht.2,Prod.mk.injEq,and_true];omega⟩
 have hkT:na*s.1+nb*o.1≤2000:=by rw [Nat.add_mul] at hka hkb;omega
 have hX:(A+A)*(B+1)≤80000:=by
  have e1:(A+1)*(B+1)=A*(B+1)+(B+1):=by rw [Nat.add_mul,Nat.one_mul]
  have e2:(A+A)*(B+1)=2*(A*(B+1)):=by rw [←Nat.two_mul,Nat.mul_assoc]
  omega
 have hJ:(A+1)*((B+1)*2)≤2000:=by have:=Nat.mul_assoc (A+1) (B+1) 2;omega
 have hfx:FF=true→max s.2.1 o.2.1=B:=by
  rw [hFF]
  simp only [Bool.or_eq_true]
  rintro (h | h)
  ·have:=s3 h;omega
  ·have:=o3 h;omega
 have hcl:∀t:St,(t.1≤A+A∧t.2=(max s.2.1 o.2.1,FF))→NextJ (downA A B) (2^((A+A)*(B-max s.2.1 o.2.1))) ((A+1)*((B+1)*2)) t∧Eqn Tryz.prog o_f2 [.d (.agg (stD t)),.p 0 0] [PO 4 A B] (.mp 1) [PO 4 A B,spO (downA A B t)]:=by
  intro t ht
  have e1:t.2.1+(B-max s.2.1 o.2.1)=B:=by rw [ht.2];simp only;omega
  have e2:t.2.2=true→t.2.1=B:=by rw [ht.2];exact hfx
  have hd:=SpOK.down (A:=A) (B:=B) (X:=A+A) (B-max s.2.1 o.2.1) t e1 ht.1 e2
  refine ⟨hd.nextJ (o_18b hd.uq hd.ky) (by omega),?_⟩
  have hdn:=o_18d h (X:=A+A) (by omega) hX (B-max s.2.1 o.2.1) t e1 ht.1 e2
  refine Eqn.gen [0,2] o_f4 (by simp) (by simp) (by rfl) (by decide) (by simp) (by simp [spO,PO]) ?_
  refine cc (c':=?z302) ?_ ?_
  case refine_1=>cbv<;>exact rfl
  try simp only [spO,stD,parD,PO] at hdn ⊢
  generalize spD rcD _=L at *
  refine A00 ?_;try with_reducible exact tt
  refine CallS.nX (hdn) (R0 ?_);try with_reducible exact tt
 have hef:na*s.1+nb*o.1+(A+A)*(B-max s.2.1 o.2.1)≤90000:=by
  have:(A+A)*(B-max s.2.1 o.2.1)≤(A+A)*(B+1):=Nat.mul_le_mul_left _ (by omega)
  omega
 have hjl:(joQ FF (atQ (thinQ s na)) (atQ (thinQ o nb))).length≤2000:=by
  have h1:((joQ FF (atQ (thinQ s na)) (atQ (thinQ o nb))).map (·.1)).length≤((List.range (A+A+1)).map fun k=>((k,max s.2.1 o.2.1,FF):St)).length:=by
   refine List.Nodup.length_le_of_subset hj.uq fun t ht=>?_
   obtain ⟨p,hp,rfl⟩:=List.mem_map.1 ht
   obtain ⟨h1,h2⟩:=hj.ky p hp
   refine List.mem_map.2 ⟨p.1.1,List.mem_range.2 (by omega),?_⟩
   rw [←h2]
  rw [List.length_map,List.length_map,List.length_range] at h1
  omega
 have hti:=o_187 (f:=o_f2) (next:=downA A B) (T1:=62) (x0:=.int .i64 4) (x1:=.int .i64 A) (x2:=.int .i64 B) (by decide) (fun t:St=>t.1≤A+A∧t.2=(max s.2.1 o.2.1,FF)) (joQ FF (atQ (thinQ s na)) (atQ (thinQ o nb))) (2^((A+A)*(B-max s.2.1 o.2.1))) (2^(na*s.1+nb*o.1)) 1 2000 ((A+1)*((B+1)*2)) (2000*((A+1)*((B+1)*2))) hj.uq (fun p hp=>hj.ky p (List.mem_filter.1 hp).1) hj.nz (Nat.le_trans (List.length_filter_le _ _) hjl) (Nat.le_trans hjl (by omega)) (Nat.two_pow_pos _) (Nat.le_refl _) hj.gr (Nat.two_pow_pos _) hcl (o_18c (by omega) (by omega) hef) (by omega) (Nat.mul_pos (by omega) (by omega))
 rw [←hmg] at hti
 have hAB2:∀x∈atQ (thinQ s na),∀y∈atQ (thinQ o nb),Gr (2^(na*s.1)*2^(nb*o.1)) 1 (x.2*y.2):=fun x hx y hy=>(hA.gr x hx).mul (hB.gr y hy)
 have hkeyA:=hA.ky
 have hkeyB:=hB.ky
 unfold joQ at hti
 clear hj hjl hmg hef hcl hJ hX ha hb hA hB
 obtain ⟨AL,hAL⟩:∃AL,AL=atQ (thinQ s na):=⟨_,rfl⟩
 obtain ⟨BL,hBL⟩:∃BL,BL=atQ (thinQ o nb):=⟨_,rfl⟩
 rw [←hAL,←hBL] at hti
 rw [←hAL] at haat hAl hrA hAB2 hkeyA
 rw [←hBL] at hbat hBl hrB hAB2 hkeyB
 clear hAL hBL
 have hsz:size (1000000*(2^(na*s.1)*2^(nb*o.1)))≤100000:=by
  have:=o_18c (L:=1000) (J:=1000) (e:=na*s.1) (f:=nb*o.1) (by omega) (by omega) (by omega)
  exact this
 obtain ⟨DD,hDD⟩:∃DD,DD=2^(na*s.1)*2^(nb*o.1):=⟨_,rfl⟩
 have hDp:0<DD:=by rw [hDD];exact Nat.mul_pos (Nat.two_pow_pos _) (Nat.two_pow_pos _)
 rw [←hDD] at hsz hAB2
 have hADl:=o_102 rcD (fun _=>rfl) AL
 have hBDl:=o_102 rcD (fun _=>rfl) BL
 have hgetA:=o_14l AL
 have hgetB:=o_14l BL
 have hgO:=o_19s (f:=FF) hAB2
 refine Eqn.gen [6] o_b6 (by simp) (by simp) (by rfl) (by decide) (by simp) (by simp [spO]) ?_
 obtain ⟨K,T,F⟩:=s
 obtain ⟨K2,T2,F2⟩:=o
 simp only at s1 s2 o1 o2 hFF hta htb haat hbat hti hkeyA hkeyB
 have e1:IntKind.i64.wrap ((T2:Int)-T)=(T2:Int)-T:=w64 (by omega) (by omega)
 have e2:IntKind.i64.wrap ((T:Int)-T2)=(T:Int)-T2:=w64 (by omega) (by omega)
 refine cc (c':=?z303) ?_ ?_
 case refine_1=>cbv<;>exact rfl
 try simp only [spO,stD,parD] at hta htb haat hbat hti ⊢
 generalize spD rcD (mgT A B (K,T,F) (K2,T2,F2))=LM at *
 generalize spD rcD (thinQ (K,T,F) na)=LA at *
 generalize spD rcD (thinQ (K2,T2,F2) nb)=LB at *
 refine A10 (fs e1 e2) ?_;try with_reducible exact tt
 refine CallS.nX (hta) (R1 e2 ?_);try with_reducible exact tt
 refine CallS.nX (htb) (R1 e2 ?_);try with_reducible exact tt
 refine A00 ?_;try with_reducible exact tt
 refine CallS.g [3] (haat) (R0 ?_);try with_reducible exact tt
 refine AW.loopG (α:=Nat) (fun i=>setS (List.replicate 79 .junk) [(3,.p 0 0),(4,.p 1 0),(5,.p 2 0),(7,.mp 3),(8,.mp 4),(9,.mp 5),(37,.d (.sl AL.length (spD rcD AL))),(38,.d (.int .i64 AL.length)),(39,.d (.int .i64 (i:Nat)))]) (fun i=>[some ⟨62,[.d (.int .i64 (4:Nat)),.d (.int .i64 A),.d (.int .i64 B)]⟩,some ⟨64,[.d (.int .i64 K),.d (.int .i64 T),.d (.bool F)]⟩,some ⟨64,[.d (.int .i64 K2),.d (.int .i64 T2),.d (.bool F2)]⟩,some ⟨1000391,LA.map .d⟩,some ⟨1000391,LB.map .d⟩,some ⟨1000391,(spD rcD (joO FF AL BL i)).map .d⟩]) (fun i=>i≤AL.length) (fun i=>AL.length-i) 0 ?_ (Nat.zero_le _) ?_ ?_ ?_
 ·intro i hi;simp
 ·simp
 ·simp [joO,spD]
 rintro i hi
 simp
 by_cases hi2:i<AL.length
 ·have hi3:(i:Int)<AL.length:=by omega
  obtain ⟨x1,x2,x3,q,N1,N2,N3,hp,hN,hg⟩:=hgetA i hi2
  have hxm:((x1,x2,x3),q)∈AL:=by rw [←hp];exact List.getElem_mem hi2
  have hky:=hkeyA _ hxm
  have hxr:=hrA _ hxm
  have hgo:=hgO i hi
  have hnx:=o_17n FF AL BL i hi2
  rw [hp] at hnx
  have ewi:IntKind.i64.wrap ((i:Int)+1)=((i+1:Nat):Int):=by rw [w64 (by omega) (by omega)];omega
  have hb6:i*6+6≤AL.length*6:=by omega
  have hb7:i*6<AL.length*6:=by omega
  obtain ⟨hx1,hx2⟩:=hky
  simp only [Prod.mk.injEq] at hx1 hx2
  refine A10 (fs hi2 (fs hi3 (fs hg (fs hADl (fs hb6 hb7))))) ?_;try with_reducible exact tt
  refine CallS.g [4] (hbat) (R0 ?_);try with_reducible exact tt
  refine AW.loopG (α:=Nat) (fun j=>setS (List.replicate 79 .junk) [(3,.p 0 0),(4,.p 1 0),(5,.p 2 0),(7,.mp 3),(8,.mp 4),(9,.mp 5),(11,.p 6 0),(37,.d (.sl AL.length (spD rcD AL))),(38,.d (.int .i64 AL.length)),(39,.d (.int .i64 (i:Nat))),(44,.d (.sl BL.length (spD rcD BL))),(45,.d (.int .i64 BL.length)),(46,.d (.int .i64 (j:Nat)))]) (fun j=>[some ⟨62,[.d (.int .i64 (4:Nat)),.d (.int .i64 A),.d (.int .i64 B)]⟩,some ⟨64,[.d (.int .i64 K),.d (.int .i64 T),.d (.bool F)]⟩,some ⟨64,[.d (.int .i64 K2),.d (.int .i64 T2),.d (.bool F2)]⟩,some ⟨1000391,LA.map .d⟩,some ⟨1000391,LB.map .d⟩,some ⟨1000391,(spD rcD (joI FF ((x1,x2,x3),q) BL (joO FF AL BL i) j)).map .d⟩,some ⟨75,[.d (.int .i64 x1),.d (.int .i64 x2),.d (.bool x3),.d N1,.d N2,.d N3]⟩]) (fun j=>j≤BL.length) (fun j=>BL.length-j) 0 ?_ (Nat.zero_le _) ?_ ?_ ?_
  ·intro j hj;simp
  ·simp
  ·simp [joI]
  rintro j hj
  simp
  by_cases hj2:j<BL.length
  ·have hj3:(j:Int)<BL.length:=by omega
   obtain ⟨y1,y2,y3,r,M1,M2,M3,hpy,hM,hgy⟩:=hgetB j hj2
   have hym:((y1,y2,y3),r)∈BL:=by rw [←hpy];exact List.getElem_mem hj2
   obtain ⟨hy1,-⟩:=hkeyB _ hym
   simp only at hy1
   have hyr:=hrB _ hym
   have hnj:=o_17m FF ((x1,x2,x3),q) BL (joO FF AL BL i) j hj2
   rw [hpy] at hnj
   simp only at hnj
   have hgi:=o_19r (f:=FF) hgo (hAB2 _ hxm) j hj
   have hqr:=hAB2 _ hxm _ hym
   have hcap:i*BL.length+j+1≤1000000:=by
    have:(i+1)*BL.length≤1000*1000:=Nat.mul_le_mul (by omega) hBl
    rw [Nat.add_mul,Nat.one_mul] at this
    omega
   have hadd:=o_11v (joI FF ((x1,x2,x3),q) BL (joO FF AL BL i) j) (x1+y1,x2,FF) (q*r) (((o_14e hgi _).le (C:=1000000) (by omega)).rs hDp (by omega) hsz) ((hqr.le (C:=1000000) (by omega)).rs hDp (by omega) hsz)
   rw [←hnj] at hadd
   have hmul:=o_v7 q r hxr hyr
   have ews:IntKind.i64.wrap ((x1:Int)+y1)=((x1+y1:Nat):Int):=by rw [w64 (by omega) (by omega)];omega
   have ewj:IntKind.i64.wrap ((j:Int)+1)=((j+1:Nat):Int):=by rw [w64 (by omega) (by omega)];omega
   have hc6:j*6+6≤BL.length*6:=by omega
   have hc7:j*6<BL.length*6:=by omega
   obtain ⟨xy,hxy⟩:∃xy,xy=x1+y1:=⟨_,rfl⟩
   rw [←hxy] at hadd ews
   rw [rD_rc q,rD_rc r,rD_rc (q*r),hN,hM] at hmul
   rw [rD_rc (q*r)] at hadd
   obtain ⟨P1,P2,P3,hP⟩:∃P1 P2 P3,rcD (q*r)=[P1,P2,P3]:=⟨_,_,_,rfl⟩
   rw [hP] at hmul hadd
   simp only [spO,stD] at hadd
   cases F with
   | true =>
    simp only [Bool.true_or] at hFF
    subst hFF
    refine A10 (fs hj2 (fs hj3 (fs hgy (fs hBDl (fs hc6 (fs hc7 ews)))))) ?_;try with_reducible exact tt
    refine CallS.pu (hmul) (R0 ?_);try with_reducible exact tt
    refine CallS.g [5] (hadd) (R0 ?_);try with_reducible exact tt
    refine A10 ewj ?_;try with_reducible exact tt
    refine ⟨j+1,5,5,⟨by omega,by omega⟩,by omega,by omega,?_,?_⟩
    ·simp [swT,swH,sw,Ob.sw,V.ren,V.rens]
    ·simp [swT,swH,sw,Ob.sw,V.ren,V.rens]
   | false =>
    simp only [Bool.false_or] at hFF
    subst hFF
    refine A10 (fs hj2 (fs hj3 (fs hgy (fs hBDl (fs hc6 (fs hc7 ews)))))) ?_;try with_reducible exact tt
    refine CallS.pu (hmul) (R0 ?_);try with_reducible exact tt
    refine CallS.g [5] (hadd) (R0 ?_);try with_reducible exact tt
    refine A10 ewj ?_;try with_reducible exact tt
    refine ⟨j+1,5,5,⟨by omega,by omega⟩,by omega,by omega,?_,?_⟩
    ·simp [swT,swH,sw,Ob.sw,V.ren,V.rens]
    ·simp [swT,swH,sw,Ob.sw,V.ren,V.rens]
  ·have h2:j=BL.length:=by omega
   subst h2
   rw [←hnx]
   refine A00 ?_;try with_reducible exact tt
   refine A10 ewi ?_;try with_reducible exact tt
   refine ⟨i+1,5,5,⟨by omega,by omega⟩,by omega,by omega,?_,?_⟩
   ·simp [swT,swH,sw,Ob.sw,V.ren,V.rens]
   ·simp [swT,swH,sw,Ob.sw,V.ren,V.rens]
 ·have h2:i=AL.length:=by omega
  subst h2
  refine A00 ?_;try with_reducible exact tt
  refine CallS.g [5,0] (hti) (R0 ?_);try with_reducible exact tt
  done
end
section
open Go.RowKit
theorem o_19w {G a b:Nat} {q:Rat} {C:Nat} (h:Gr (G^a) C q) (hab:a≤b):Gr (G^b) C q:=by
 have:=h.scale (G^(b-a))
 rwa [←Nat.pow_add,show a+(b-a)=b by omega] at this
theorem o_19x {k a w:Nat} (h:GoodS k a w) {A B:Sp} {DA CA DB CB:Nat} (okA:oklQ (topC w) A) (okB:oklQ (topC w) B) (uA:Uq A) (uB:Uq B) (oA:exQ (fun _=>1) A=1) (oB:exQ (fun _=>1) B=1) (dA:0<DA) (cA:1≤CA) (dB:0<DB) (cB:1≤CB) (zA:size DA≤20) (yA:size CA≤20) (zB:size DB≤20) (yB:size CB≤20) (gA:∀p∈A,Gr DA CA p.2) (gB:∀p∈B,Gr DB CB p.2) :
  ∃G M,MrgOK k a w (mgQ (topC w) k a) A B G M 17 17∧0<G∧1≤M∧size G≤60∧size M≤60∧(∀p∈mrgG (mgQ (topC w) k a) A B,Gr G (4913*M) p.2)∧oklQ (topC w) (mrgG (mgQ (topC w) k a) A B):=by
 have h8:2^w≤16:=Nat.pow_le_pow_right (n:=2) (by omega) h.2.2
 have h7:topC w≤15:=by unfold topC;omega
 obtain ⟨G0,hG,hG63,hc,hr⟩:=o_15e h
 have lA:A.length≤17:=Nat.le_trans (o_166 uA okA) (by omega)
 have lB:B.length≤17:=Nat.le_trans (o_166 uB okB) (by omega)
 have qq:∀L:Sp,exQ (fun _=>1) L=1→1≤L.length:=fun L hL=>by
  rcases L with _ | ⟨p,L⟩
  ·exact absurd hL (by decide)
  ·simp
 have sG:size G0≤1:=o_oi (Nat.lt_of_le_of_lt hG63 (by decide))
 have s24:size 80≤1:=o_oi (by decide)
 have pG:=fun n=>o_14x G0 sG n
 have p24:=fun n=>o_14x 80 s24 n
 obtain ⟨G,hGe⟩:∃G,G=DA*DB*G0^16:=⟨_,rfl⟩
 obtain ⟨M,hMe⟩:∃M,M=CA*CB*80^16:=⟨_,rfl⟩
 have Gp:0<G:=by rw [hGe];exact Nat.mul_pos (Nat.mul_pos dA dB) (Nat.pow_pos hG)
 have Mp:1≤M:=by rw [hMe];exact Nat.mul_pos (Nat.mul_pos cA cB) (Nat.pow_pos (by decide))
 have Gs:size G≤60:=by
  rw [hGe]
  have:=o_ut (DA*DB) (G0^16);have:=o_ut DA DB;have:=pG 16;omega
 have Ms:size M≤60:=by
  rw [hMe]
  have:=o_ut (CA*CB) (80^16);have:=o_ut CA CB;have:=p24 16;omega
 have mgm:∀x∈A,∀y∈B,∀p∈atQ (mgQ (topC w) k a x.1 y.1),Gr (G0^16) (80^16) p.2:=fun x hx y hy p hp=>by
  have y15:y.1.1≤15:=by have:=(okB y hy).1.1;omega
  have h1:=mg_gr h hr (okA x hx).1 (o:=y.1) y15 p (List.mem_filter.1 ((o_10j _).mem_iff.1 hp)).1
  rw [←Nat.pow_succ] at h1
  refine (o_19w h1 (by omega)).le ?_
  rw [Nat.mul_comm,←Nat.pow_succ]
  exact Nat.pow_le_pow_right (by decide) (by omega)
 have hgr:∀x∈A,∀y∈B,(∀p∈atQ (mgQ (topC w) k a x.1 y.1),Gr G M (x.2*y.2*p.2))∧(atQ (mgQ (topC w) k a x.1 y.1)).length≤17:=fun x hx y hy=>by
  refine ⟨fun p hp=>?_,Nat.le_trans (o_14j _) (Nat.le_trans (o_166 (mg_uq _ _) (mg_ok h (okA x hx).1 (okB y hy).1)) (by omega))⟩
  rw [hGe,hMe]
  exact ((gA x hx).mul (gB y hy)).mul (mgm x hx y hy p hp)
 have hgo:=o_16l (mg:=mgQ (topC w) k a) (L:=17) lB hgr A.length (Nat.le_refl _)
 rw [o_16j] at hgo
 have e81:A.length*(17*17)*M≤4913*M:=Nat.mul_le_mul_right M (by omega)
 have hout:∀p∈mrgG (mgQ (topC w) k a) A B,Gr G (4913*M) p.2:=fun p hp=>(hgo p hp).le e81
 have sz1:size (100000*M*G)≤1000:=by
  have:=o_ut (100000*M) G;have:=o_ut 100000 M
  have:size 100000≤1:=o_oi (by decide)
  omega
 have hu:Uq (mrgG (mgQ (topC w) k a) A B):=o_19e A B
 have hone:exQ (fun _=>1) (mrgG (mgQ (topC w) k a) A B)=1:=o_19g oA oB fun x _ y _=>o_167 _ _
 have hokO:oklQ (topC w) (mrgG (mgQ (topC w) k a) A B):=fun p hp =>
  ⟨o_19h (R:=okQ (topC w)) (fun x hx y hy=>fun q hq=>(mg_ok h (okA x hx).1 (okB y hy).1 q hq).1) p hp,(hout p hp).nn Gp⟩
 have lO:=o_166 hu hokO
 have rsX:∀{D C:Nat} {q:Rat},0<D→1≤C→size D≤20→size C≤20→Gr D C q→RS q 40000:=fun {D C q} h1 h2 h3 h4 h5=>h5.rs h1 h2 (by have:=o_ut C D;omega)
 refine ⟨G,M,⟨Gp,Mp,by omega,by omega,by omega,qq A oA,by omega,qq B oB,lB,by omega,fun x hx=>⟨(okA x hx).2,rsX dA cA zA yA (gA x hx)⟩,fun y hy=>⟨(okB y hy).2,rsX dB cB zB yB (gB y hy)⟩,hgr,fun x hx y hy p hp=>?_,?_,?_,fun x hx y hy=>⟨o_15x h x.1 y.1 (okA x hx).1 (okB y hy).1.1 (by have:=(okB y hy).1.1;omega),o_16a h (by have:=(okB y hy).1.1;omega) (okA x hx).1 (okB y hy).1⟩,?_⟩,Gp,Mp,Gs,Ms,hout,hokO⟩
 ·refine (mgm x hx y hy p hp).rs (Nat.pow_pos hG) (Nat.pow_pos (by decide)) ?_
  have:=o_ut (80^16) (G0^16);have:=pG 16;have:=p24 16;omega
 ·refine Nat.le_trans (o_o0 ?_) (Nat.le_trans sz1 (by omega))
  refine Nat.mul_le_mul_right G (Nat.mul_le_mul_right M ?_)
  omega
 ·have hl:((A++B).map (·.1)).length=A.length+B.length:=by simp
  have:=o_15w (.inr ⟨by have:=h.1;omega,o_w4 h⟩) (by have:=h.1;omega) h.2.2 ((A++B).map (·.1)) (by omega) (fun s hs=>?_)
  ·rwa [hl] at this
  ·obtain ⟨p,hp,rfl⟩:=List.mem_map.1 hs
   rcases List.mem_append.1 hp with hp | hp
   ·exact wellQ h (okA p hp).1
   ·exact wellQ h (okB p hp).1
 ·refine o_141 _ hu (o_168 hone) (Nat.le_trans lO (by omega)) fun p hp=>?_
  refine (hout p hp).rs Gp (Nat.mul_pos (by decide) Mp) (Nat.le_trans (o_o0 ?_) (Nat.le_trans sz1 (by omega)))
  exact Nat.mul_le_mul_right G (Nat.mul_le_mul_right M (by omega))
theorem o_19y {A B:Nat} (h:ThS A B) (h4:(A+1)*(B+1)≤128) (l:List St) (hl:l.length≤1000000) (hw:∀s∈l,okT A B s):Eqn Tryz.prog o_ag [.d (parD 4 A B),.d (.sl l.length (stsD l))] [] (.d (.int .i64 0)) []:=by
 refine Eqn.pure o_ai Plain.ok ?_
 have h1:=o_15v h.good l hl fun s hs=>o_18g (hw s hs)
 have h2:=o_18f h
 generalize (A+1)*(B+1)=W at *
 have e1:IntKind.i64.wrap (4*(W:Int))=4*(W:Int):=w64 (by omega) (by omega)
 have e2:¬512<4*(W:Int):=by omega
 refine cc (c':=?z304) ?_ ?_
 case refine_1=>cbv<;>exact rfl
 try simp only [parD] at h1 h2 ⊢
 refine A00 ?_;try with_reducible exact tt
 refine CallS.pu (h1) (R0 ?_);try with_reducible exact tt
 refine A00 ?_;try with_reducible exact tt
 refine CallS.pu (h2) (R1 (fs e1 e2) ?_);try with_reducible exact tt
 refine A10 (fs e1 e2) ?_;try with_reducible exact tt
theorem o_19z {A B:Nat} (h1:1≤A) (h2:A≤8) (h3:B≤3) {LA LB:Sp} {e f:Nat} (hA:SpOK e (okT A B) LA) (hB:SpOK f (okT A B) LB) (he:e≤1000) (hf:f≤1000) :
  MrgOK 4 A B (mgT A B) LA LB (2^(e+f+100)) 1 72 72∧SpOK (e+f+100) (okT A B) (mrgG (mgT A B) LA LB):=by
 have hS:=o_18l h1 h2 h3
 have hJ:(A+1)*((B+1)*2)≤9*(4*2):=Nat.mul_le_mul (by omega) (Nat.mul_le_mul_right _ (by omega))
 have lA:=o_18b hA.uq hA.ky
 have lB:=o_18b hB.uq hB.ky
 have qq:∀L:Sp,exQ (fun _=>1) L=1→1≤L.length:=fun L hL=>by
  rcases L with _ | ⟨p,L⟩
  ·exact absurd hL (by decide)
  ·simp
 have hmg:∀x∈LA,∀y∈LB,SpOK 100 (okT A B) (mgT A B x.1 y.1):=fun x hx y hy=>by
  refine (SpOK.mgT (hA.ky x hx) (hB.ky y hy)).mono ?_ fun _ h=>h
  have a1:B*A≤3*8:=Nat.mul_le_mul h3 h2
  have a2:(A+A)*B≤16*3:=Nat.mul_le_mul (by omega) h3
  omega
 have hgr:∀x∈LA,∀y∈LB,(∀p∈atQ (mgT A B x.1 y.1),Gr (2^(e+f+100)) 1 (x.2*y.2*p.2))∧(atQ (mgT A B x.1 y.1)).length≤72:=fun x hx y hy=>by
  have hm:=hmg x hx y hy
  refine ⟨fun p hp=>?_,Nat.le_trans (o_14j _) (Nat.le_trans (o_18b hm.uq hm.ky) hJ)⟩
  have:=((hA.gr x hx).mul (hB.gr y hy)).mul (hm.at.gr p hp)
  rwa [←Nat.pow_add,←Nat.pow_add] at this
 have hout:SpOK (e+f+100) (okT A B) (mrgG (mgT A B) LA LB):=by
  refine ⟨o_19e _ _,o_19g hA.one hB.one fun x hx y hy=>(hmg x hx y hy).one,?_,o_19h fun x hx y hy=>(hmg x hx y hy).ky⟩
  have hgi:∀x∈LA,∀y∈LB,∀p∈atQ (mgT A B x.1 y.1),Gi 100 p.2:=fun x hx y hy=>(hmg x hx y hy).at.gi
  have k1:∀x∈LA,∀(j:Nat) (out:Sp),j≤LB.length→(∀p∈out,Gi (e+f+100) p.2)→∀p∈inG (mgT A B) x LB out j,Gi (e+f+100) p.2:=by
   intro x hx j
   induction j with
   | zero=>intro out _ h p hp;exact h p (by simpa [inG] using hp)
   | succ j ih =>
    intro out hj h
    rw [o_16g _ x LB out j (by omega)]
    exact o_17d ((hA.gi x hx).mul (hB.gi _ (List.getElem_mem _))) (ih out (by omega) h) (hgi x hx _ (List.getElem_mem _))
  have k2:∀i,i≤LA.length→∀p∈outG (mgT A B) LA LB i,Gi (e+f+100) p.2:=by
   intro i
   induction i with
   | zero=>intro _ p hp;simp [outG] at hp
   | succ i ih =>
    intro hi
    rw [o_16i _ LA LB i hi]
    exact k1 _ (List.getElem_mem _) _ _ (Nat.le_refl _) (ih (by omega))
  rw [←o_16j]
  exact k2 _ (Nat.le_refl _)
 have lO:=o_18b hout.uq hout.ky
 have hr:∀{L:Sp} {g:Nat},SpOK g (okT A B) L→g≤1000→∀p∈L,0≤p.2∧RS p.2 40000:=fun {L g} hL hg p hp=>⟨hL.nn p hp,(hL.gr p hp).rs (Nat.two_pow_pos _) (Nat.le_refl _) (by rw [Nat.one_mul];have:=o_183 g;omega)⟩
 refine ⟨⟨Nat.two_pow_pos _,by omega,by omega,by omega,by omega,qq LA hA.one,by omega,qq LB hB.one,by omega,by omega,hr hA he,hr hB hf,hgr,fun x hx y hy=>(hmg x hx y hy).at.rs (by omega),?_,?_,fun x hx y hy=>?_,?_⟩,hout⟩
 ·have a1:=o_ut ((LA.length+2)*(72*72)*1) (2^(e+f+100))
  have a2:=o_183 (e+f+100)
  have a3:(LA.length+2)*(72*72)*1≤74*(72*72):=by rw [Nat.mul_one];exact Nat.mul_le_mul_right _ (by omega)
  have a4:size ((LA.length+2)*(72*72)*1)≤1:=o_oi (by omega)
  omega
 ·have hl:((LA++LB).map (·.1)).length=LA.length+LB.length:=by simp
  have:=o_19y hS (Nat.le_trans (Nat.mul_le_mul (show A+1≤9 by omega) (show B+1≤4 by omega)) (by omega)) ((LA++LB).map (·.1)) (by omega) (fun s hs=>?_)
  ·rwa [hl] at this
  ·obtain ⟨p,hp,rfl⟩:=List.mem_map.1 hs
   rcases List.mem_append.1 hp with hp | hp
   ·exact hA.ky p hp
   ·exact hB.ky p hp
 ·have hm:=hmg x hx y hy
  exact ⟨o_19v hS x.1 y.1 (hA.ky x hx) (hB.ky y hy),o_141 _ hm.uq hm.nz (Nat.le_trans (o_18b hm.uq hm.ky) (by omega)) (hm.rs (by omega))⟩
 ·exact o_141 _ hout.uq hout.nz (by omega) (hout.rs (by omega))
end
section
open Go.RowKit
end
section
open Go.RowKit
end
section
open Go.RowKit
theorem o_1a0 (K A B:Nat) (s:St):atQ (smQ K A B s 0)=[(s,1)]:=by
 unfold smQ dstT dstQ
 split<;>exact o_17w s
theorem mgR_t (A B:Nat):mgR 4 A B=mgT A B:=rfl
theorem mgR_c {K:Nat} (hk:K≠4) (A B:Nat):mgR K A B=mgQ (topC B) K A:=by
 funext s o
 unfold mgR
 rw [if_neg hk]
theorem o_1a1 {K A B:Nat} (hsr:SmallR K A B) {s o:St} (hs:WellR K A B s.1 s.2.1 s.2.2) (ho:WellR K A B o.1 o.2.1 o.2.2) (n m:Nat) (hn:n≤3) (hm:m≤3):SmOK K A B (mrgG (mgR K A B) (atQ (smQ K A B s n)) (atQ (smQ K A B o m)))∧(∀p∈atQ (smQ K A B s n),WellR K A B p.1.1 p.1.2.1 p.1.2.2)∧(∀p∈atQ (smQ K A B o m),WellR K A B p.1.1 p.1.2.1 p.1.2.2) ∧
  Eqn Tryz.prog o_9d [.d (parD K A B),.d (.sl (atQ (smQ K A B s n)).length (spD rcD (atQ (smQ K A B s n)))),.d (.sl (atQ (smQ K A B o m)).length (spD rcD (atQ (smQ K A B o m))))] [] (.tup [.d (.sl (atQ (mrgG (mgR K A B) (atQ (smQ K A B s n)) (atQ (smQ K A B o m)))).length (spD rcD (atQ (mrgG (mgR K A B) (atQ (smQ K A B s n)) (atQ (smQ K A B o m)))))),.d (.int .i64 0)]) []:=by
 rcases hsr with ⟨rfl,h1,h2,h3⟩ | ⟨hk,hG⟩
 ·rcases hs with ⟨-,hs⟩ | ⟨h,-⟩
  rotate_left
  ·exact absurd rfl h
  rcases ho with ⟨-,ho⟩ | ⟨h,-⟩
  rotate_left
  ·exact absurd rfl h
  replace hs:okT A B s:=hs
  replace ho:okT A B o:=ho
  have hst:∀{s},okT A B s→∀i,SpOK (i*(B+(A+1)*B)) (okT A B) (dstT A B s i):=fun hs i=>SpOK.of (fun t (ht:okT A B t)=>SpOK.stepT ht) hs i
  have he:∀i,i≤3→i*(B+(A+1)*B)≤90:=fun i hi=>Nat.le_trans (Nat.mul_le_mul hi (Nat.add_le_add h3 (Nat.mul_le_mul (show A+1≤9 by omega) h3))) (by decide)
  have eN:=he n hn
  have eM:=he m hm
  obtain ⟨hmo,hout⟩:=o_19z h1 h2 h3 (hst hs n).at (hst ho m).at (by omega) (by omega)
  have hls:=o_18n h1 h2 h3 hout (by omega)
  exact ⟨⟨hout.uq,hout.one,hout.nn,_,_,_,_,hls⟩,fun p hp=>o_18g ((hst hs n).at.ky p hp),fun p hp=>o_18g ((hst ho m).at.ky p hp),o_16o hmo⟩
 ·rcases hs with ⟨h,-⟩ | ⟨-,k1,k2,k3⟩
  ·exact absurd h hk
  rcases ho with ⟨h,-⟩ | ⟨-,l1,l2,l3⟩
  ·exact absurd h hk
  replace hs:okQ (topC B) s:=⟨k2,k1,k3⟩
  replace ho:okQ (topC B) o:=⟨l2,l1,l3⟩
  have h8:2^B≤16:=Nat.pow_le_pow_right (n:=2) (by omega) hG.2.2
  have h7:topC B≤15:=by unfold topC;omega
  obtain ⟨c0,c1⟩:=o_14z hG
  obtain ⟨G0,hGp,hG63,hc⟩:=o_14a hG
  have sG:size G0≤1:=o_oi (Nat.lt_of_le_of_lt hG63 (by decide))
  have pG:=fun n=>o_14x G0 sG n
  have p80:=fun n=>o_14x 80 (o_oi (by decide)) n
  have ok:=fun {s} (hs:okQ (topC B) s) i=>ok_at (ok_of (c:=chP K A) c0 c1 hs i)
  have gr:=fun {s} (hs:okQ (topC B) s) i=>fun p (hp:p∈atQ (dstQ K A B s i))=>o_162 h7 c0 c1 (fun x hx=>hc x (by omega)) hs i p (List.mem_filter.1 ((o_10j _).mem_iff.1 hp)).1
  have on:∀s i,exQ (fun _=>1) (atQ (dstQ K A B s i))=1:=fun s i=>by rw [ex_at];exact o_110 _ _
  obtain ⟨G,M,hmo,Gp,Mp,Gs,Ms,hout,hok⟩:=o_19x hG (ok hs n) (ok ho m) (uq_at (of_uq _ _ n)) (uq_at (of_uq _ _ m)) (on s n) (on o m) (Nat.pow_pos hGp) (Nat.pow_pos (by decide)) (Nat.pow_pos hGp) (Nat.pow_pos (by decide)) (by have:=pG n;omega) (by have:=p80 n;omega) (by have:=pG m;omega) (by have:=p80 m;omega) (gr hs n) (gr ho m)
  have hone:exQ (fun _=>1) (mrgG (mgQ (topC B) K A) (atQ (dstQ K A B s n)) (atQ (dstQ K A B o m)))=1:=o_19g (on s n) (on o m) fun x _ y _=>o_167 _ _
  have hu:=o_19e (mg:=mgQ (topC B) K A) (atQ (dstQ K A B s n)) (atQ (dstQ K A B o m))
  have hl:=o_166 hu hok
  have hV:vlQ K A B=plQ (valC K A):=funext fun s=>by
   unfold vlQ valR plQ
   rw [if_neg hk]
  have hvg:∀x,x≤topC B→Gr (12^15) (2^24) (valC K A x):=fun x hx=>o_17z hG x (by omega)
  have hls:LsOK K A B (atQ (mrgG (mgQ (topC B) K A) (atQ (dstQ K A B s n)) (atQ (dstQ K A B o m)))) G (4913*M) (12^15) (2^24):=by
   have ok2:=ok_at hok
   refine ⟨Nat.le_trans (o_14j _) (by omega),by rw [ex_at];exact hone,Gp,Nat.mul_pos (by decide) Mp,by decide,by decide,by omega,?_,Nat.le_trans (o_oi (by decide)) (by decide),Nat.le_trans (o_oi (by decide)) (by decide),fun p hp=>wellQ hG (ok2 p hp).1,fun p hp=>hout p (List.mem_filter.1 ((o_10j _).mem_iff.1 hp)).1,fun p hp=>?_⟩
   ·have a1:=o_ut 4913 M
    have a2:size 4913≤1:=o_oi (by decide)
    omega
   ·rw [hV];exact hvg _ (ok2 p hp).1.1
  have e1:∀s i,smQ K A B s i=dstQ K A B s i:=fun s i=>by unfold smQ;rw [if_neg hk]
  rw [e1,e1,mgR_c hk]
  exact ⟨⟨hu,hone,fun p hp=>(hok p hp).2,_,_,_,_,hls⟩,fun p hp=>wellQ hG (ok hs n p hp).1,fun p hp=>wellQ hG (ok ho m p hp).1,o_16o hmo⟩
theorem o_1a2 {K A B:Nat} (hsr:SmallR K A B) {s o:St} (hs:WellR K A B s.1 s.2.1 s.2.2) (ho:WellR K A B o.1 o.2.1 o.2.2):Uq (mgR K A B s o):=by
 rcases hsr with ⟨rfl,-⟩ | ⟨hk,hG⟩
 ·rcases hs with ⟨-,hs⟩ | ⟨h,-⟩
  rotate_left
  ·exact absurd rfl h
  rcases ho with ⟨-,ho⟩ | ⟨h,-⟩
  rotate_left
  ·exact absurd rfl h
  exact (SpOK.mgT (s:=s) (o:=o) hs ho).uq
 ·rw [mgR_c hk];exact mg_uq _ _
theorem o_1a3 {mg:St→St→Sp} (s o:St) (g:St→Rat):exQ g (mrgG mg [(s,1)] [(o,1)])=exQ g (mg s o):=by
 rw [o_19f]
 simp only [exQ]
 grind
theorem o_1a4 {K A B:Nat} (hsr:SmallR K A B) {s o:St} (hs:WellR K A B s.1 s.2.1 s.2.2) (ho:WellR K A B o.1 o.2.1 o.2.2):atQ (mrgG (mgR K A B) [(s,1)] [(o,1)])=atQ (mgR K A B s o) :=
 o_17v (o_19e _ _) (o_1a2 hsr hs ho) fun t=>by rw [o_10m t _ (o_19e _ _),o_10m t _ (o_1a2 hsr hs ho),o_1a3]
end
section
open Go.RowKit
def askM (k a b:Nat) (s o:St) (cs:List Bool):St×Int :=
 let R:=mergeRM cs k a b s.1 s.2.1 s.2.2 o.1 o.2.1 o.2.2 0 false
 (if R.e=0 then (R.y,R.t,R.f) else s,R.e)
theorem o_1a5 {F:List Bool→Nat→Bool→TR} {f:CP St} (hr:Runs (fun cs p d=>trH (F cs p d)) f) {ask:List Bool→St×Int} {s:St} (ha:∀pre,ask pre=(if (F pre 0 false).e=0 then ((F pre 0 false).y,(F pre 0 false).t,(F pre 0 false).f) else s,(F pre 0 false).e)) (pre:List Bool):match f.O pre with
  | some (r,c)=>ask pre=(r,0)
  | none=>(ask pre).2=8:=by
 have h:=hr pre 0 (Nat.zero_le _)
 rw [List.drop_zero] at h
 cases ho:f.O pre with
 | none =>
  rw [ho] at h
  rw [ha]
  exact h
 | some rc =>
  obtain ⟨r,c⟩:=rc
  rw [ho] at h
  simp only [trH,Prod.mk.injEq] at h
  obtain ⟨h1,h2,h3,h4⟩:=h
  simp only
  rw [ha,if_pos h2]
  exact Prod.ext h1 h2
theorem o_1a6 {K A B:Nat} (hsr:SmallR K A B) {s o:St} (hs:WellR K A B s.1 s.2.1 s.2.2) (ho:WellR K A B o.1 o.2.1 o.2.2):LawOK (walkN (askM K A B s o) 11 [] ([],0)).1 (walkN (askM K A B s o) 11 [] ([],0)).2 (mrgG (mgR K A B) [(s,1)] [(o,1)]) :=
 o_19i (o_19e _ _) (rgM K A B s o) (o_1a5 (o_19p hsr s o) fun pre=>rfl) fun g=>by rw [rgM_E hsr hs ho,o_1a3]
theorem o_1a7 {k a b:Nat} (hg:GoodR k a b) (s o:St) (hw:WellR k a b s.1 s.2.1 s.2.2) (hv:WellR k a b o.1 o.2.1 o.2.2):AskOK o_97 62 64 64 [.int .i64 k,.int .i64 a,.int .i64 b] (stD s) (stD o) (askM k a b s o) where
 t6:=by decide
 t7:=by decide
 t8:=by decide
 run:=fun cs hcs=>by
  obtain ⟨y,t,f⟩:=s
  obtain ⟨z,u,g⟩:=o
  obtain ⟨R,hR⟩:∃R,R=mergeRM cs k a b y t f z u g 0 false:=⟨_,rfl⟩
  have hr:=o_wt cs k a b y t f z u g 0 false hg hw hv (by omega) (by omega) R hR
  have e:askM k a b (y,t,f) (z,u,g) cs=(if R.e=0 then (R.y,R.t,R.f) else (y,t,f),R.e):=by unfold askM;rw [hR]
  have e2:stR R y t f = .agg (stD (if R.e=0 then (R.y,R.t,R.f) else (y,t,f))):=by
   unfold stR tsD stD
   split<;>rfl
  rw [e]
  rw [e2] at hr
  simp only
  generalize (if R.e=0 then (R.y,R.t,R.f) else (y,t,f):St)=Z at *
  obtain ⟨z1,z2,z3⟩:=Z
  refine ⟨R.p,R.d,?_⟩
  refine Eqn.gen [0,1,2,3] o_99 (by simp) (by simp) (by rfl) (by decide) (by simp [tapeO]) (by simp [tapeO]) ?_
  refine cc (c':=?z305) ?_ ?_
  case refine_1=>cbv<;>exact rfl
  try simp only [parD,tsD,stD] at hr ⊢
  refine A00 ?_;try with_reducible exact tt
  refine CallS.o1 0 (hr) (R0 ?_);try with_reducible exact tt
theorem o_1a8 {K A B:Nat} (hsr:SmallR K A B) {s o:St} (hs:WellR K A B s.1 s.2.1 s.2.2) (ho:WellR K A B o.1 o.2.1 o.2.2):Eqn Tryz.prog o_8j [.d (parD K A B),.d (.agg (stD s)),.d (.agg (stD o))] [] (.tup [.d (.sl (atQ (mgR K A B s o)).length (spD rcD (atQ (mgR K A B s o)))),.d (.int .i64 0)]) []:=by
 refine Eqn.pure o_8l Plain.ok ?_
 have key:Eqn Tryz.prog o_ag [.d (parD K A B),.d (.sl 2 (stsD [s,o]))] [] (.d (.int .i64 0)) []∧Eqn Tryz.prog o_b4 [.d (parD K A B),.d (.agg (stD s)),.d (.agg (stD o))] [] (.mp 0) [spO (mgR K A B s o)]∧Eqn Tryz.prog o_am [.mp 0] [spO (mgR K A B s o)] (.d (.sl (atQ (mgR K A B s o)).length (spD rcD (atQ (mgR K A B s o))))) [spO (mgR K A B s o)]:=by
  rcases hsr with ⟨rfl,h1,h2,h3⟩ | ⟨hk,hG⟩
  ·rcases hs with ⟨-,hs⟩ | ⟨h,-⟩
   rotate_left
   ·exact absurd rfl h
   rcases ho with ⟨-,ho⟩ | ⟨h,-⟩
   rotate_left
   ·exact absurd rfl h
   replace hs:okT A B s:=hs
   replace ho:okT A B o:=ho
   have hS:=o_18l h1 h2 h3
   have hM:=SpOK.mgT hs ho
   rw [mgR_t]
   refine ⟨o_19y hS ?_ [s,o] (by simp) ?_,o_19v hS s o hs ho,?_⟩
   ·exact Nat.le_trans (Nat.mul_le_mul (show A+1≤9 by omega) (show B+1≤4 by omega)) (by decide)
   ·intro t ht
    simp only [List.mem_cons,List.not_mem_nil,or_false] at ht
    rcases ht with rfl | rfl
    ·exact hs
    ·exact ho
   ·have hJ:(A+1)*((B+1)*2)≤9*(4*2):=Nat.mul_le_mul (by omega) (Nat.mul_le_mul_right _ (by omega))
    have hl:=o_18b hM.uq hM.ky
    refine o_141 _ hM.uq hM.nz (by omega) fun p hp=>(hM.gr p hp).rs (Nat.two_pow_pos _) (by decide) ?_
    have a1:B*A≤3*8:=Nat.mul_le_mul h3 h2
    have a2:(A+A)*B≤16*3:=Nat.mul_le_mul (by omega) h3
    have he:B*A+B*A+(A+A)*B≤96:=by omega
    generalize B*A+B*A+(A+A)*B=e at *
    rw [Nat.one_mul]
    exact Nat.le_trans (o_183 e) (by omega)
  ·rcases hs with ⟨h,-⟩ | ⟨-,k1,k2,k3⟩
   ·exact absurd h hk
   rcases ho with ⟨h,-⟩ | ⟨-,l1,l2,l3⟩
   ·exact absurd h hk
   replace hs:okQ (topC B) s:=⟨k2,k1,k3⟩
   replace ho:okQ (topC B) o:=⟨l2,l1,l3⟩
   have h8:2^B≤16:=Nat.pow_le_pow_right (n:=2) (by omega) hG.2.2
   have h7:topC B≤15:=by unfold topC;omega
   have o15:o.1≤15:=Nat.le_trans ho.1 h7
   rw [mgR_c hk]
   refine ⟨o_15w (.inr ⟨hk,o_w4 hG⟩) hk hG.2.2 [s,o] (by simp) ?_,o_15x hG s o hs ho.1 o15,o_16a hG o15 hs ho⟩
   intro t ht
   simp only [List.mem_cons,List.not_mem_nil,or_false] at ht
   rcases ht with rfl | rfl
   ·exact wellQ hG hs
   ·exact wellQ hG ho
 obtain ⟨hc,hm,ha⟩:=key
 generalize atQ (mgR K A B s o)=L at *
 generalize mgR K A B s o=M at *
 obtain ⟨y,t,f⟩:=s
 obtain ⟨z,u,g⟩:=o
 refine cc (c':=?z306) ?_ ?_
 case refine_1=>cbv<;>exact rfl
 try simp only [parD,stsD,stD,spO,List.flatMap_cons,List.flatMap_nil,List.cons_append,List.nil_append] at hc hm ha ⊢
 refine A00 ?_;try with_reducible exact tt
 refine CallS.pf 3 3 ⟨64,_⟩ [.int .i64 y,.int .i64 t,.bool f,.int .i64 z,.int .i64 u,.bool g] (hc) (by first | rfl | (simp;done)) (R0 ?_);try with_reducible exact tt
 refine A00 ?_;try with_reducible exact tt
 refine CallS.nX (hm) (R0 ?_);try with_reducible exact tt
 refine CallS.g [4] (ha) (R0 ?_);try with_reducible exact tt
end
section
open Go.RowKit
set_option maxHeartbeats 8000000 in
theorem o_1a9 (k a b y0 t0:Int) (f0:Bool) (y1 t1:Int) (f1:Bool):Eqn Tryz.prog o_7v [.d (parD k a b),.d (.agg [.int .i64 y0,.int .i64 t0,.bool f0,.int .i64 y1,.int .i64 t1,.bool f1])] [] (.d (.bool true)) []:=by
 refine Eqn.pure o_7x Plain.ok ?_
 obtain ⟨K,A,B,hsr,hsm⟩:=o_x0 k a b
 obtain ⟨Y,T,F,hw,hs1⟩:=hsm y0 t0 f0
 obtain ⟨Z,U,G,hv,hs2⟩:=hsm y1 t1 f1
 have hwn:=o_ww K A B
 have hst:=o_wx Y T F
 have hsu:=o_wx Z U G
 have hmg:=o_1a8 hsr (s:=(Y,T,F)) (o:=(Z,U,G)) hw hv
 obtain ⟨hS,-,-,hmd⟩:=o_1a1 hsr (s:=(Y,T,F)) (o:=(Z,U,G)) hw hv 0 0 (by omega) (by omega)
 rw [o_1a0,o_1a0] at hS hmd
 rw [←o_1a4 hsr hw hv] at hmg
 have hwt:=o_147 (o_1a7 (o_wv hsr) (Y,T,F) (Z,U,G) hw hv)
 have hord:=o_18p hsr hS
 have hfit:=sm_fits_walk hS (o_1a6 hsr hw hv)
 obtain ⟨D,C,E,V,hls⟩:=hS.ls
 have hrs:=hls.rs
 have hLn:=hls.len
 have ho1:=rof1
 rw [rD_rc] at ho1
 have e1:spD rcD [((Y,T,F),1)]=stD (Y,T,F)++rcD (1:Rat):=by simp [spD]
 have e2:spD rcD [((Z,U,G),1)]=stD (Z,U,G)++rcD (1:Rat):=by simp [spD]
 rw [e1,e2] at hmd
 obtain ⟨O1,O2,O3,hO⟩:∃O1 O2 O3,rcD (1:Rat)=[O1,O2,O3]:=⟨_,_,_,rfl⟩
 rw [hO] at ho1 hmd
 clear hO e1 e2 hls hS
 generalize walkN (askM K A B (Y,T,F) (Z,U,G)) 11 [] ([],0)=X at *
 generalize atQ (mrgG (mgR K A B) [((Y,T,F),1)] [((Z,U,G),1)])=L at *
 have hLl:=o_102 rcD (fun _=>rfl) L
 have hgetA:=o_14l L
 refine cc (c':=?z307) ?_ ?_
 case refine_1=>cbv<;>exact rfl
 try simp only [parD,tsD,stD,wtO,List.length_cons,List.length_nil,List.cons_append,List.nil_append] at hs1 hs2 hwn hst hsu hmg hmd hwt hord hfit ⊢
 refine A01 o_18j ?_;try with_reducible exact tt
 refine CallS.pu (hs1) (R0 ?_);try with_reducible exact tt
 refine A00 ?_;try with_reducible exact tt
 refine CallS.pu (hs2) (R0 ?_);try with_reducible exact tt
 refine A00 ?_;try with_reducible exact tt
 refine CallS.pu (hwn) (R0 ?_);try with_reducible exact tt
 refine CallS.pu (hst) (R0 ?_);try with_reducible exact tt
 refine CallS.pu (hsu) (R0 ?_);try with_reducible exact tt
 refine A00 ?_;try with_reducible exact tt
 refine CallS.g [5,6,7] (hwt) (R0 ?_);try with_reducible exact tt
 refine A00 ?_;try with_reducible exact tt
 refine CallS.pu (hmg) (R0 ?_);try with_reducible exact tt
 refine A00 ?_;try with_reducible exact tt
 refine CallS.pu (ho1) (R0 ?_);try with_reducible exact tt
 refine CallS.pu (ho1) (R0 ?_);try with_reducible exact tt
 refine A00 ?_;try with_reducible exact tt
 refine CallS.pff 9 6 ⟨75,_⟩ [.int .i64 Y,.int .i64 T,.bool F,O1,O2,O3] 10 6 ⟨75,_⟩ [.int .i64 Z,.int .i64 U,.bool G,O1,O2,O3] (hmd) (by first | rfl | (simp;done)) (R0 ?_);try with_reducible exact tt
 refine CallS.pu (hord) (R0 ?_);try with_reducible exact tt
 refine A00 ?_;try with_reducible exact tt
 refine CallS.g [8] (hfit) (R0 ?_);try with_reducible exact tt
 refine A00 ?_;try with_reducible exact tt
 refine AW.loopW (α:=Nat) (fun i=>setS (List.replicate 122 .junk) [(13,.d (.sl L.length (spD rcD L))),(15,.d (.sl L.length (spD rcD L))),(92,.d (.int .i64 L.length)),(93,.d (.int .i64 (i:Nat)))]) (fun i=>[]) (fun i=>i≤L.length) (fun i=>L.length-i) 0 (fun _=>rfl) (Nat.zero_le _) 0 (Nat.zero_le _) ?_ ?_ ?_
 ·simp
 ·simp
 rintro i hi
 simp
 by_cases hi2:i<L.length
 ·have hi3:(i:Int)<L.length:=by omega
  have ew:IntKind.i64.wrap ((i:Int)+1)=((i+1:Nat):Int):=by rw [w64 (by omega) (by omega)];omega
  obtain ⟨s1,s2,s3,q,N1,N2,N3,hp,hN,hgA⟩:=hgetA i hi2
  have hri:=hrs _ (List.getElem_mem hi2)
  rw [hp] at hri
  simp only at hri
  have hc:=o_va q q (hri.le (by omega)) (hri.le (by omega))
  rw [o_vn,rD_rc,hN] at hc
  have hb6:i*6+6≤L.length*6:=by omega
  have hb7:i*6<L.length*6:=by omega
  have hg3:((spD rcD L).drop (i*6)).take 3=[.int .i64 s1,.int .i64 s2,.bool s3]:=by
   have:=congrArg (List.take 3) hgA
   rwa [List.take_take] at this
  have hg4:((spD rcD L).drop (i*6+3)).take 3=[N1,N2,N3]:=by
   have:=congrArg (List.drop 3) hgA
   rwa [List.drop_take,List.drop_drop] at this
  have hb8:i*6+3≤L.length*6:=by omega
  have hb9:i*6+3+3≤L.length*6:=by omega
  refine A11 (fs hi2 (fs hi3 (fs hLl (fs hg3 (fs hg4 (fs hb6 (fs hb7 (fs hb8 (fs hb9 ew))))))))) hc ?_;try with_reducible exact tt
  refine ⟨i+1,by omega,by omega,?_⟩
  exact Sub1.refl _
 ·have hi3:¬(i:Int)<L.length:=by omega
  refine A10 hi3 ?_;try with_reducible exact tt
end
section
open Go.RowKit

theorem pmg_walk {W:World} (ht:Tabs (memW W)) {k a b y0 t0:Int} {f0:Bool} {y1 t1:Int} {f1:Bool}:Calls Tryz.prog o_7v #[.agg #[.int .i64 k,.int .i64 a,.int .i64 b],.agg #[.int .i64 y0,.int .i64 t0,.bool f0,.int .i64 y1,.int .i64 t1,.bool f1]] W (fun e W'=>e = .returned (.bool true)∧Same W W') :=
 o_x2 o_7x (o_1a9 k a b y0 t0 f0 y1 t1 f1) (V.reps_cons.2 ⟨o_x3 (by simp [Value.oneCell']) (by simp [D.reps_cons,D.rep_int]),V.reps_cons.2 ⟨o_x3 (by simp [Value.oneCell']) (by simp [D.reps_cons,D.rep_int,D.rep_bool]),V.reps_nil.2 rfl⟩⟩) ht
end
end Go.Proofs.YtabnkmpkcfjkmaaGreatDoor.Am
