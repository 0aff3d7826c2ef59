/- Parts of the proof: PtF, PtG, FalC, TmnA, WuB, WuC, WuT, WvA, WvC, WvB, WvD, WvE, CwL. -/
import Derived.Test.YtabnkmpkcfjkmaaGreatDoorPf
set_option linter.unusedVariables false
set_option linter.unusedSimpArgs false
set_option maxRecDepth 100000
namespace Go.Proofs.YtabnkmpkcfjkmaaGreatDoor.Am
section
open Go.RowKit
set_option maxHeartbeats 8000000 in
theorem o_1bb {A B:Nat} (h:ThS A B) (s o:St) (hs:okT A B s) (ho:okT A B o):Eqn Tryz.prog o_a4 [.d (parD 4 A B),.d (.agg (stD s)),.d (.agg (stD o))] [] (.mp 0) [spO (mgT A B s o)]:=by
 obtain ⟨s1,s2,s3⟩:=hs
 obtain ⟨o1,o2,o3⟩:=ho
 have hb9:=h.b
 have ha9:=h.a
 have hn:=h.n
 have hAB:(B+1)*A≤1000:=by
  have e1:(A+1)*(B+1)=A*(B+1)+(B+1):=by rw [Nat.add_mul,Nat.one_mul]
  rw [Nat.mul_comm]
  omega
 obtain ⟨na,hna⟩:∃na,na=o.2.1-s.2.1:=⟨_,rfl⟩
 obtain ⟨nb,hnb⟩:∃nb,nb=s.2.1-o.2.1:=⟨_,rfl⟩
 have hka:(na+1)*s.1≤1000:=Nat.le_trans (Nat.mul_le_mul (show na+1≤B+1 by omega) s1) hAB
 have hkb:(nb+1)*o.1≤1000:=Nat.le_trans (Nat.mul_le_mul (show nb+1≤B+1 by omega) o1) hAB
 have hta:=o_1ba s ((o.2.1:Int)-s.2.1) na (by omega) (by omega) (by omega) (by omega)
 have htb:=o_1ba o ((s.2.1:Int)-o.2.1) nb (by omega) (by omega) (by omega) (by omega)
 have ha:=SpOK.thin s na
 have hb:=SpOK.thin o nb
 have haat:=o_14w (thinQ s na) ha.uq ha.nz (Nat.le_trans (o_1b9 s na) (by omega)) (ha.rs (by rw [Nat.add_mul] at hka;omega))
 have hbat:=o_14w (thinQ o nb) hb.uq hb.nz (Nat.le_trans (o_1b9 o nb) (by omega)) (hb.rs (by rw [Nat.add_mul] at hkb;omega))
 have hA:=ha.at
 have hB:=hb.at
 have hAl:(atQ (thinQ s na)).length≤1000:=Nat.le_trans (o_158 _) (Nat.le_trans (o_1b9 s na) (by omega))
 have hBl:(atQ (thinQ o nb)).length≤1000:=Nat.le_trans (o_158 _) (Nat.le_trans (o_1b9 o nb) (by omega))
 have hrA:=hA.rs (by rw [Nat.add_mul] at hka;omega)
 have hrB:=hB.rs (by rw [Nat.add_mul] at hkb;omega)
 have hmg:mgT A B s o=timesQ (downA A B) (joQ (s.2.2 || o.2.2) (atQ (thinQ s na)) (atQ (thinQ o nb))):=by rw [hna,hnb];rfl
 obtain ⟨FF,hFF⟩:∃FF,FF=(s.2.2 || o.2.2):=⟨_,rfl⟩
 rw [←hFF] at hmg
 have hj:SpOK (na*s.1+nb*o.1) (fun t=>t.1≤A+A∧t.2=(max s.2.1 o.2.1,FF)) (joQ FF (atQ (thinQ s na)) (atQ (thinQ o nb))):=hA.join hB fun t u ht hu=>⟨by simp only;omega,by simp only [ht.2,Prod.mk.injEq,and_true];omega⟩
 have hkT:na*s.1+nb*o.1≤2000:=by rw [Nat.add_mul] at hka hkb;omega
 have hX:(A+A)*(B+1)≤80000:=by
  have e1:(A+1)*(B+1)=A*(B+1)+(B+1):=by rw [Nat.add_mul,Nat.one_mul]
  have e2:(A+A)*(B+1)=2*(A*(B+1)):=by rw [←Nat.two_mul,Nat.mul_assoc]
  omega
 have hJ:(A+1)*((B+1)*2)≤2000:=by have:=Nat.mul_assoc (A+1) (B+1) 2;omega
 have hfx:FF=true→max s.2.1 o.2.1=B:=by
  rw [hFF]
  simp only [Bool.or_eq_true]
  rintro (h | h)
  ·have:=s3 h;omega
  ·have:=o3 h;omega
 have hcl:∀t:St,(t.1≤A+A∧t.2=(max s.2.1 o.2.1,FF))→NextJ (downA A B) (2^((A+A)*(B-max s.2.1 o.2.1))) ((A+1)*((B+1)*2)) t∧Eqn Tryz.prog o_en [.d (.agg (stD t)),.p 0 0] [PO 4 A B] (.mp 1) [PO 4 A B,spO (downA A B t)]:=by
  intro t ht
  have e1:t.2.1+(B-max s.2.1 o.2.1)=B:=by rw [ht.2];simp only;omega
  have e2:t.2.2=true→t.2.1=B:=by rw [ht.2];exact hfx
  have hd:=SpOK.down (A:=A) (B:=B) (X:=A+A) (B-max s.2.1 o.2.1) t e1 ht.1 e2
  refine ⟨hd.nextJ (o_1a8 hd.uq hd.ky) (by omega),?_⟩
  have hdn:=o_1aa h (X:=A+A) (by omega) hX (B-max s.2.1 o.2.1) t e1 ht.1 e2
  refine Eqn.gen [0,2] o_ep (by simp) (by simp) (by rfl) (by decide) (by simp) (by simp [spO,PO]) ?_
  refine cc (c':=?z308) ?_ ?_
  case refine_1=>cbv<;>exact rfl
  try simp only [spO,stD,parD,PO] at hdn ⊢
  generalize spD rcD _=L at *
  refine A00 ?_;try with_reducible exact tt
  refine CallS.nX (hdn) (R0 ?_);try with_reducible exact tt
 have hef:na*s.1+nb*o.1+(A+A)*(B-max s.2.1 o.2.1)≤90000:=by
  have:(A+A)*(B-max s.2.1 o.2.1)≤(A+A)*(B+1):=Nat.mul_le_mul_left _ (by omega)
  omega
 have hjl:(joQ FF (atQ (thinQ s na)) (atQ (thinQ o nb))).length≤2000:=by
  have h1:((joQ FF (atQ (thinQ s na)) (atQ (thinQ o nb))).map (·.1)).length≤((List.range (A+A+1)).map fun k=>((k,max s.2.1 o.2.1,FF):St)).length:=by
   refine List.Nodup.length_le_of_subset hj.uq fun t ht=>?_
   obtain ⟨p,hp,rfl⟩:=List.mem_map.1 ht
   obtain ⟨h1,h2⟩:=hj.ky p hp
   refine List.mem_map.2 ⟨p.1.1,List.mem_range.2 (by omega),?_⟩
   rw [←h2]
  rw [List.length_map,List.length_map,List.length_range] at h1
  omega
 have hti:=o_1a4 (f:=o_en) (next:=downA A B) (T1:=62) (x0:=.int .i64 4) (x1:=.int .i64 A) (x2:=.int .i64 B) (by decide) (fun t:St=>t.1≤A+A∧t.2=(max s.2.1 o.2.1,FF)) (joQ FF (atQ (thinQ s na)) (atQ (thinQ o nb))) (2^((A+A)*(B-max s.2.1 o.2.1))) (2^(na*s.1+nb*o.1)) 1 2000 ((A+1)*((B+1)*2)) (2000*((A+1)*((B+1)*2))) hj.uq (fun p hp=>hj.ky p (List.mem_filter.1 hp).1) hj.nz (Nat.le_trans (List.length_filter_le _ _) hjl) (Nat.le_trans hjl (by omega)) (Nat.two_pow_pos _) (Nat.le_refl _) hj.gr (Nat.two_pow_pos _) hcl (o_1a9 (by omega) (by omega) hef) (by omega) (Nat.mul_pos (by omega) (by omega))
 rw [←hmg] at hti
 have hAB2:∀x∈atQ (thinQ s na),∀y∈atQ (thinQ o nb),Gr (2^(na*s.1)*2^(nb*o.1)) 1 (x.2*y.2):=fun x hx y hy=>(hA.gr x hx).mul (hB.gr y hy)
 have hkeyA:=hA.ky
 have hkeyB:=hB.ky
 unfold joQ at hti
 clear hj hjl hmg hef hcl hJ hX ha hb hA hB
 obtain ⟨AL,hAL⟩:∃AL,AL=atQ (thinQ s na):=⟨_,rfl⟩
 obtain ⟨BL,hBL⟩:∃BL,BL=atQ (thinQ o nb):=⟨_,rfl⟩
 rw [←hAL,←hBL] at hti
 rw [←hAL] at haat hAl hrA hAB2 hkeyA
 rw [←hBL] at hbat hBl hrB hAB2 hkeyB
 clear hAL hBL
 have hsz:size (1000000*(2^(na*s.1)*2^(nb*o.1)))≤100000:=by
  have:=o_1a9 (L:=1000) (J:=1000) (e:=na*s.1) (f:=nb*o.1) (by omega) (by omega) (by omega)
  exact this
 obtain ⟨DD,hDD⟩:∃DD,DD=2^(na*s.1)*2^(nb*o.1):=⟨_,rfl⟩
 have hDp:0<DD:=by rw [hDD];exact Nat.mul_pos (Nat.two_pow_pos _) (Nat.two_pow_pos _)
 rw [←hDD] at hsz hAB2
 have hADl:=o_12e rcD (fun _=>rfl) AL
 have hBDl:=o_12e rcD (fun _=>rfl) BL
 have hgetA:=o_15a AL
 have hgetB:=o_15a BL
 have hgO:=o_1b8 (f:=FF) hAB2
 refine Eqn.gen [6] o_a6 (by simp) (by simp) (by rfl) (by decide) (by simp) (by simp [spO]) ?_
 obtain ⟨K,T,F⟩:=s
 obtain ⟨K2,T2,F2⟩:=o
 simp only at s1 s2 o1 o2 hFF hta htb haat hbat hti hkeyA hkeyB
 have e1:IntKind.i64.wrap ((T2:Int)-T)=(T2:Int)-T:=w64 (by omega) (by omega)
 have e2:IntKind.i64.wrap ((T:Int)-T2)=(T:Int)-T2:=w64 (by omega) (by omega)
 refine cc (c':=?z309) ?_ ?_
 case refine_1=>cbv<;>exact rfl
 try simp only [spO,stD,parD] at hta htb haat hbat hti ⊢
 generalize spD rcD (mgT A B (K,T,F) (K2,T2,F2))=LM at *
 generalize spD rcD (thinQ (K,T,F) na)=LA at *
 generalize spD rcD (thinQ (K2,T2,F2) nb)=LB at *
 refine A10 (fs e1 e2) ?_;try with_reducible exact tt
 refine CallS.nX (hta) (R1 e2 ?_);try with_reducible exact tt
 refine CallS.nX (htb) (R1 e2 ?_);try with_reducible exact tt
 refine A00 ?_;try with_reducible exact tt
 refine CallS.g [3] (haat) (R0 ?_);try with_reducible exact tt
 refine AW.loopG (α:=Nat) (fun i=>setS (List.replicate 79 .junk) [(3,.p 0 0),(4,.p 1 0),(5,.p 2 0),(7,.mp 3),(8,.mp 4),(9,.mp 5),(37,.d (.sl AL.length (spD rcD AL))),(38,.d (.int .i64 AL.length)),(39,.d (.int .i64 (i:Nat)))]) (fun i=>[some ⟨62,[.d (.int .i64 (4:Nat)),.d (.int .i64 A),.d (.int .i64 B)]⟩,some ⟨64,[.d (.int .i64 K),.d (.int .i64 T),.d (.bool F)]⟩,some ⟨64,[.d (.int .i64 K2),.d (.int .i64 T2),.d (.bool F2)]⟩,some ⟨1000391,LA.map .d⟩,some ⟨1000391,LB.map .d⟩,some ⟨1000391,(spD rcD (joO FF AL BL i)).map .d⟩]) (fun i=>i≤AL.length) (fun i=>AL.length-i) 0 ?_ (Nat.zero_le _) ?_ ?_ ?_
 ·intro i hi;simp
 ·simp
 ·simp [joO,spD]
 rintro i hi
 simp
 by_cases hi2:i<AL.length
 ·have hi3:(i:Int)<AL.length:=by omega
  obtain ⟨x1,x2,x3,q,N1,N2,N3,hp,hN,hg⟩:=hgetA i hi2
  have hxm:((x1,x2,x3),q)∈AL:=by rw [←hp];exact List.getElem_mem hi2
  have hky:=hkeyA _ hxm
  have hxr:=hrA _ hxm
  have hgo:=hgO i hi
  have hnx:=o_19q FF AL BL i hi2
  rw [hp] at hnx
  have ewi:IntKind.i64.wrap ((i:Int)+1)=((i+1:Nat):Int):=by rw [w64 (by omega) (by omega)];omega
  have hb6:i*6+6≤AL.length*6:=by omega
  have hb7:i*6<AL.length*6:=by omega
  obtain ⟨hx1,hx2⟩:=hky
  simp only [Prod.mk.injEq] at hx1 hx2
  refine A10 (fs hi2 (fs hi3 (fs hg (fs hADl (fs hb6 hb7))))) ?_;try with_reducible exact tt
  refine CallS.g [4] (hbat) (R0 ?_);try with_reducible exact tt
  refine AW.loopG (α:=Nat) (fun j=>setS (List.replicate 79 .junk) [(3,.p 0 0),(4,.p 1 0),(5,.p 2 0),(7,.mp 3),(8,.mp 4),(9,.mp 5),(11,.p 6 0),(37,.d (.sl AL.length (spD rcD AL))),(38,.d (.int .i64 AL.length)),(39,.d (.int .i64 (i:Nat))),(44,.d (.sl BL.length (spD rcD BL))),(45,.d (.int .i64 BL.length)),(46,.d (.int .i64 (j:Nat)))]) (fun j=>[some ⟨62,[.d (.int .i64 (4:Nat)),.d (.int .i64 A),.d (.int .i64 B)]⟩,some ⟨64,[.d (.int .i64 K),.d (.int .i64 T),.d (.bool F)]⟩,some ⟨64,[.d (.int .i64 K2),.d (.int .i64 T2),.d (.bool F2)]⟩,some ⟨1000391,LA.map .d⟩,some ⟨1000391,LB.map .d⟩,some ⟨1000391,(spD rcD (joI FF ((x1,x2,x3),q) BL (joO FF AL BL i) j)).map .d⟩,some ⟨75,[.d (.int .i64 x1),.d (.int .i64 x2),.d (.bool x3),.d N1,.d N2,.d N3]⟩]) (fun j=>j≤BL.length) (fun j=>BL.length-j) 0 ?_ (Nat.zero_le _) ?_ ?_ ?_
  ·intro j hj;simp
  ·simp
  ·simp [joI]
  rintro j hj
  simp
  by_cases hj2:j<BL.length
  ·have hj3:(j:Int)<BL.length:=by omega
   obtain ⟨y1,y2,y3,r,M1,M2,M3,hpy,hM,hgy⟩:=hgetB j hj2
   have hym:((y1,y2,y3),r)∈BL:=by rw [←hpy];exact List.getElem_mem hj2
   obtain ⟨hy1,-⟩:=hkeyB _ hym
   simp only at hy1
   have hyr:=hrB _ hym
   have hnj:=o_19p FF ((x1,x2,x3),q) BL (joO FF AL BL i) j hj2
   rw [hpy] at hnj
   simp only at hnj
   have hgi:=o_1b7 (f:=FF) hgo (hAB2 _ hxm) j hj
   have hqr:=hAB2 _ hxm _ hym
   have hcap:i*BL.length+j+1≤1000000:=by
    have:(i+1)*BL.length≤1000*1000:=Nat.mul_le_mul (by omega) hBl
    rw [Nat.add_mul,Nat.one_mul] at this
    omega
   have hadd:=o_13f (joI FF ((x1,x2,x3),q) BL (joO FF AL BL i) j) (x1+y1,x2,FF) (q*r) (((o_153 hgi _).le (C:=1000000) (by omega)).rs hDp (by omega) hsz) ((hqr.le (C:=1000000) (by omega)).rs hDp (by omega) hsz)
   rw [←hnj] at hadd
   have hmul:=o_ul q r hxr hyr
   have ews:IntKind.i64.wrap ((x1:Int)+y1)=((x1+y1:Nat):Int):=by rw [w64 (by omega) (by omega)];omega
   have ewj:IntKind.i64.wrap ((j:Int)+1)=((j+1:Nat):Int):=by rw [w64 (by omega) (by omega)];omega
   have hc6:j*6+6≤BL.length*6:=by omega
   have hc7:j*6<BL.length*6:=by omega
   obtain ⟨xy,hxy⟩:∃xy,xy=x1+y1:=⟨_,rfl⟩
   rw [←hxy] at hadd ews
   rw [rD_rc q,rD_rc r,rD_rc (q*r),hN,hM] at hmul
   rw [rD_rc (q*r)] at hadd
   obtain ⟨P1,P2,P3,hP⟩:∃P1 P2 P3,rcD (q*r)=[P1,P2,P3]:=⟨_,_,_,rfl⟩
   rw [hP] at hmul hadd
   simp only [spO,stD] at hadd
   cases F with
   | true =>
    simp only [Bool.true_or] at hFF
    subst hFF
    refine A10 (fs hj2 (fs hj3 (fs hgy (fs hBDl (fs hc6 (fs hc7 ews)))))) ?_;try with_reducible exact tt
    refine CallS.pu (hmul) (R0 ?_);try with_reducible exact tt
    refine CallS.g [5] (hadd) (R0 ?_);try with_reducible exact tt
    refine A10 ewj ?_;try with_reducible exact tt
    refine ⟨j+1,5,5,⟨by omega,by omega⟩,by omega,by omega,?_,?_⟩
    ·simp [swT,swH,sw,Ob.sw,V.ren,V.rens]
    ·simp [swT,swH,sw,Ob.sw,V.ren,V.rens]
   | false =>
    simp only [Bool.false_or] at hFF
    subst hFF
    refine A10 (fs hj2 (fs hj3 (fs hgy (fs hBDl (fs hc6 (fs hc7 ews)))))) ?_;try with_reducible exact tt
    refine CallS.pu (hmul) (R0 ?_);try with_reducible exact tt
    refine CallS.g [5] (hadd) (R0 ?_);try with_reducible exact tt
    refine A10 ewj ?_;try with_reducible exact tt
    refine ⟨j+1,5,5,⟨by omega,by omega⟩,by omega,by omega,?_,?_⟩
    ·simp [swT,swH,sw,Ob.sw,V.ren,V.rens]
    ·simp [swT,swH,sw,Ob.sw,V.ren,V.rens]
  ·have h2:j=BL.length:=by omega
   subst h2
   rw [←hnx]
   refine A00 ?_;try with_reducible exact tt
   refine A10 ewi ?_;try with_reducible exact tt
   refine ⟨i+1,5,5,⟨by omega,by omega⟩,by omega,by omega,?_,?_⟩
   ·simp [swT,swH,sw,Ob.sw,V.ren,V.rens]
   ·simp [swT,swH,sw,Ob.sw,V.ren,V.rens]
 ·have h2:i=AL.length:=by omega
  subst h2
  refine A00 ?_;try with_reducible exact tt
  refine CallS.g [5,0] (hti) (R0 ?_);try with_reducible exact tt
  done
end
section
open Go.RowKit
theorem o_1bc {G a b:Nat} {q:Rat} {C:Nat} (h:Gr (G^a) C q) (hab:a≤b):Gr (G^b) C q:=by
 have:=h.scale (G^(b-a))
 rwa [←Nat.pow_add,show a+(b-a)=b by omega] at this
theorem o_1bd {k a w:Nat} (h:GoodS k a w) {A B:Sp} {DA CA DB CB:Nat} (okA:oklQ (topC w) A) (okB:oklQ (topC w) B) (uA:Uq A) (uB:Uq B) (oA:exQ (fun _=>1) A=1) (oB:exQ (fun _=>1) B=1) (dA:0<DA) (cA:1≤CA) (dB:0<DB) (cB:1≤CB) (zA:size DA≤20) (yA:size CA≤20) (zB:size DB≤20) (yB:size CB≤20) (gA:∀p∈A,Gr DA CA p.2) (gB:∀p∈B,Gr DB CB p.2) :
  ∃G M,MrgOK k a w (mgQ (topC w) k a) A B G M 17 17∧0<G∧1≤M∧size G≤60∧size M≤60∧(∀p∈mrgG (mgQ (topC w) k a) A B,Gr G (4913*M) p.2)∧oklQ (topC w) (mrgG (mgQ (topC w) k a) A B):=by
 have h8:2^w≤16:=Nat.pow_le_pow_right (n:=2) (by omega) h.2.2
 have h7:topC w≤15:=by unfold topC;omega
 obtain ⟨G0,hG,hG63,hc,hr⟩:=o_162 h
 have lA:A.length≤17:=Nat.le_trans (o_172 uA okA) (by omega)
 have lB:B.length≤17:=Nat.le_trans (o_172 uB okB) (by omega)
 have qq:∀L:Sp,exQ (fun _=>1) L=1→1≤L.length:=fun L hL=>by
  rcases L with _ | ⟨p,L⟩
  ·exact absurd hL (by decide)
  ·simp
 have sG:size G0≤1:=o_p8 (Nat.lt_of_le_of_lt hG63 (by decide))
 have s24:size 80≤1:=o_p8 (by decide)
 have pG:=fun n=>o_15i G0 sG n
 have p24:=fun n=>o_15i 80 s24 n
 obtain ⟨G,hGe⟩:∃G,G=DA*DB*G0^16:=⟨_,rfl⟩
 obtain ⟨M,hMe⟩:∃M,M=CA*CB*80^16:=⟨_,rfl⟩
 have Gp:0<G:=by rw [hGe];exact Nat.mul_pos (Nat.mul_pos dA dB) (Nat.pow_pos hG)
 have Mp:1≤M:=by rw [hMe];exact Nat.mul_pos (Nat.mul_pos cA cB) (Nat.pow_pos (by decide))
 have Gs:size G≤60:=by
  rw [hGe]
  have:=o_u7 (DA*DB) (G0^16);have:=o_u7 DA DB;have:=pG 16;omega
 have Ms:size M≤60:=by
  rw [hMe]
  have:=o_u7 (CA*CB) (80^16);have:=o_u7 CA CB;have:=p24 16;omega
 have mgm:∀x∈A,∀y∈B,∀p∈atQ (mgQ (topC w) k a x.1 y.1),Gr (G0^16) (80^16) p.2:=fun x hx y hy p hp=>by
  have y15:y.1.1≤15:=by have:=(okB y hy).1.1;omega
  have h1:=mg_gr h hr (okA x hx).1 (o:=y.1) y15 p (List.mem_filter.1 ((o_12v _).mem_iff.1 hp)).1
  rw [←Nat.pow_succ] at h1
  refine (o_1bc h1 (by omega)).le ?_
  rw [Nat.mul_comm,←Nat.pow_succ]
  exact Nat.pow_le_pow_right (by decide) (by omega)
 have hgr:∀x∈A,∀y∈B,(∀p∈atQ (mgQ (topC w) k a x.1 y.1),Gr G M (x.2*y.2*p.2))∧(atQ (mgQ (topC w) k a x.1 y.1)).length≤17:=fun x hx y hy=>by
  refine ⟨fun p hp=>?_,Nat.le_trans (o_158 _) (Nat.le_trans (o_172 (mg_uq _ _) (mg_ok h (okA x hx).1 (okB y hy).1)) (by omega))⟩
  rw [hGe,hMe]
  exact ((gA x hx).mul (gB y hy)).mul (mgm x hx y hy p hp)
 have hgo:=o_17e (mg:=mgQ (topC w) k a) (L:=17) lB hgr A.length (Nat.le_refl _)
 rw [o_17c] at hgo
 have e81:A.length*(17*17)*M≤4913*M:=Nat.mul_le_mul_right M (by omega)
 have hout:∀p∈mrgG (mgQ (topC w) k a) A B,Gr G (4913*M) p.2:=fun p hp=>(hgo p hp).le e81
 have sz1:size (100000*M*G)≤1000:=by
  have:=o_u7 (100000*M) G;have:=o_u7 100000 M
  have:size 100000≤1:=o_p8 (by decide)
  omega
 have hu:Uq (mrgG (mgQ (topC w) k a) A B):=o_1au A B
 have hone:exQ (fun _=>1) (mrgG (mgQ (topC w) k a) A B)=1:=o_1aw oA oB fun x _ y _=>o_173 _ _
 have hokO:oklQ (topC w) (mrgG (mgQ (topC w) k a) A B):=fun p hp =>
  ⟨o_1ax (R:=okQ (topC w)) (fun x hx y hy=>fun q hq=>(mg_ok h (okA x hx).1 (okB y hy).1 q hq).1) p hp,(hout p hp).nn Gp⟩
 have lO:=o_172 hu hokO
 have rsX:∀{D C:Nat} {q:Rat},0<D→1≤C→size D≤20→size C≤20→Gr D C q→RS q 40000:=fun {D C q} h1 h2 h3 h4 h5=>h5.rs h1 h2 (by have:=o_u7 C D;omega)
 refine ⟨G,M,⟨Gp,Mp,by omega,by omega,by omega,qq A oA,by omega,qq B oB,lB,by omega,fun x hx=>⟨(okA x hx).2,rsX dA cA zA yA (gA x hx)⟩,fun y hy=>⟨(okB y hy).2,rsX dB cB zB yB (gB y hy)⟩,hgr,fun x hx y hy p hp=>?_,?_,?_,fun x hx y hy=>⟨o_16x h x.1 y.1 (okA x hx).1 (okB y hy).1.1 (by have:=(okB y hy).1.1;omega),o_176 h (by have:=(okB y hy).1.1;omega) (okA x hx).1 (okB y hy).1⟩,?_⟩,Gp,Mp,Gs,Ms,hout,hokO⟩
 ·refine (mgm x hx y hy p hp).rs (Nat.pow_pos hG) (Nat.pow_pos (by decide)) ?_
  have:=o_u7 (80^16) (G0^16);have:=pG 16;have:=p24 16;omega
 ·refine Nat.le_trans (o_oq ?_) (Nat.le_trans sz1 (by omega))
  refine Nat.mul_le_mul_right G (Nat.mul_le_mul_right M ?_)
  omega
 ·have hl:((A++B).map (·.1)).length=A.length+B.length:=by simp
  have:=o_16w (.inr ⟨by have:=h.1;omega,o_z6 h⟩) (by have:=h.1;omega) h.2.2 ((A++B).map (·.1)) (by omega) (fun s hs=>?_)
  ·rwa [hl] at this
  ·obtain ⟨p,hp,rfl⟩:=List.mem_map.1 hs
   rcases List.mem_append.1 hp with hp | hp
   ·exact wellQ h (okA p hp).1
   ·exact wellQ h (okB p hp).1
 ·refine o_14w _ hu (o_174 hone) (Nat.le_trans lO (by omega)) fun p hp=>?_
  refine (hout p hp).rs Gp (Nat.mul_pos (by decide) Mp) (Nat.le_trans (o_oq ?_) (Nat.le_trans sz1 (by omega)))
  exact Nat.mul_le_mul_right G (Nat.mul_le_mul_right M (by omega))
theorem o_1be {A B:Nat} (h:ThS A B) (h4:(A+1)*(B+1)≤128) (l:List St) (hl:l.length≤1000000) (hw:∀s∈l,okT A B s):Eqn Tryz.prog o_9m [.d (parD 4 A B),.d (.sl l.length (stsD l))] [] (.d (.int .i64 0)) []:=by
 refine Eqn.pure o_9o Plain.ok ?_
 have h1:=o_16v h.good l hl fun s hs=>o_1ac (hw s hs)
 have h2:=o_1ab h
 generalize (A+1)*(B+1)=W at *
 have e1:IntKind.i64.wrap (4*(W:Int))=4*(W:Int):=w64 (by omega) (by omega)
 have e2:¬512<4*(W:Int):=by omega
 refine cc (c':=?z310) ?_ ?_
 case refine_1=>cbv<;>exact rfl
 try simp only [parD] at h1 h2 ⊢
 refine A00 ?_;try with_reducible exact tt
 refine CallS.pu (h1) (R0 ?_);try with_reducible exact tt
 refine A00 ?_;try with_reducible exact tt
 refine CallS.pu (h2) (R1 (fs e1 e2) ?_);try with_reducible exact tt
 refine A10 (fs e1 e2) ?_;try with_reducible exact tt
theorem o_1bf {A B:Nat} (h1:1≤A) (h2:A≤8) (h3:B≤3) {LA LB:Sp} {e f:Nat} (hA:SpOK e (okT A B) LA) (hB:SpOK f (okT A B) LB) (he:e≤1000) (hf:f≤1000) :
  MrgOK 4 A B (mgT A B) LA LB (2^(e+f+100)) 1 72 72∧SpOK (e+f+100) (okT A B) (mrgG (mgT A B) LA LB):=by
 have hS:=o_1ae h1 h2 h3
 have hJ:(A+1)*((B+1)*2)≤9*(4*2):=Nat.mul_le_mul (by omega) (Nat.mul_le_mul_right _ (by omega))
 have lA:=o_1a8 hA.uq hA.ky
 have lB:=o_1a8 hB.uq hB.ky
 have qq:∀L:Sp,exQ (fun _=>1) L=1→1≤L.length:=fun L hL=>by
  rcases L with _ | ⟨p,L⟩
  ·exact absurd hL (by decide)
  ·simp
 have hmg:∀x∈LA,∀y∈LB,SpOK 100 (okT A B) (mgT A B x.1 y.1):=fun x hx y hy=>by
  refine (SpOK.mgT (hA.ky x hx) (hB.ky y hy)).mono ?_ fun _ h=>h
  have a1:B*A≤3*8:=Nat.mul_le_mul h3 h2
  have a2:(A+A)*B≤16*3:=Nat.mul_le_mul (by omega) h3
  omega
 have hgr:∀x∈LA,∀y∈LB,(∀p∈atQ (mgT A B x.1 y.1),Gr (2^(e+f+100)) 1 (x.2*y.2*p.2))∧(atQ (mgT A B x.1 y.1)).length≤72:=fun x hx y hy=>by
  have hm:=hmg x hx y hy
  refine ⟨fun p hp=>?_,Nat.le_trans (o_158 _) (Nat.le_trans (o_1a8 hm.uq hm.ky) hJ)⟩
  have:=((hA.gr x hx).mul (hB.gr y hy)).mul (hm.at.gr p hp)
  rwa [←Nat.pow_add,←Nat.pow_add] at this
 have hout:SpOK (e+f+100) (okT A B) (mrgG (mgT A B) LA LB):=by
  refine ⟨o_1au _ _,o_1aw hA.one hB.one fun x hx y hy=>(hmg x hx y hy).one,?_,o_1ax fun x hx y hy=>(hmg x hx y hy).ky⟩
  have hgi:∀x∈LA,∀y∈LB,∀p∈atQ (mgT A B x.1 y.1),Gi 100 p.2:=fun x hx y hy=>(hmg x hx y hy).at.gi
  have k1:∀x∈LA,∀(j:Nat) (out:Sp),j≤LB.length→(∀p∈out,Gi (e+f+100) p.2)→∀p∈inG (mgT A B) x LB out j,Gi (e+f+100) p.2:=by
   intro x hx j
   induction j with
   | zero=>intro out _ h p hp;exact h p (by simpa [inG] using hp)
   | succ j ih =>
    intro out hj h
    rw [o_179 _ x LB out j (by omega)]
    exact o_19g ((hA.gi x hx).mul (hB.gi _ (List.getElem_mem _))) (ih out (by omega) h) (hgi x hx _ (List.getElem_mem _))
  have k2:∀i,i≤LA.length→∀p∈outG (mgT A B) LA LB i,Gi (e+f+100) p.2:=by
   intro i
   induction i with
   | zero=>intro _ p hp;simp [outG] at hp
   | succ i ih =>
    intro hi
    rw [o_17b _ LA LB i hi]
    exact k1 _ (List.getElem_mem _) _ _ (Nat.le_refl _) (ih (by omega))
  rw [←o_17c]
  exact k2 _ (Nat.le_refl _)
 have lO:=o_1a8 hout.uq hout.ky
 have hr:∀{L:Sp} {g:Nat},SpOK g (okT A B) L→g≤1000→∀p∈L,0≤p.2∧RS p.2 40000:=fun {L g} hL hg p hp=>⟨hL.nn p hp,(hL.gr p hp).rs (Nat.two_pow_pos _) (Nat.le_refl _) (by rw [Nat.one_mul];have:=o_1a0 g;omega)⟩
 refine ⟨⟨Nat.two_pow_pos _,by omega,by omega,by omega,by omega,qq LA hA.one,by omega,qq LB hB.one,by omega,by omega,hr hA he,hr hB hf,hgr,fun x hx y hy=>(hmg x hx y hy).at.rs (by omega),?_,?_,fun x hx y hy=>?_,?_⟩,hout⟩
 ·have a1:=o_u7 ((LA.length+2)*(72*72)*1) (2^(e+f+100))
  have a2:=o_1a0 (e+f+100)
  have a3:(LA.length+2)*(72*72)*1≤74*(72*72):=by rw [Nat.mul_one];exact Nat.mul_le_mul_right _ (by omega)
  have a4:size ((LA.length+2)*(72*72)*1)≤1:=o_p8 (by omega)
  omega
 ·have hl:((LA++LB).map (·.1)).length=LA.length+LB.length:=by simp
  have:=o_1be hS (Nat.le_trans (Nat.mul_le_mul (show A+1≤9 by omega) (show B+1≤4 by omega)) (by omega)) ((LA++LB).map (·.1)) (by omega) (fun s hs=>?_)
  ·rwa [hl] at this
  ·obtain ⟨p,hp,rfl⟩:=List.mem_map.1 hs
   rcases List.mem_append.1 hp with hp | hp
   ·exact hA.ky p hp
   ·exact hB.ky p hp
 ·have hm:=hmg x hx y hy
  exact ⟨o_1bb hS x.1 y.1 (hA.ky x hx) (hB.ky y hy),o_14w _ hm.uq hm.nz (Nat.le_trans (o_1a8 hm.uq hm.ky) (by omega)) (hm.rs (by omega))⟩
 ·exact o_14w _ hout.uq hout.nz (by omega) (hout.rs (by omega))
end
section
open Go.RowKit
end
section
open Go.RowKit
end
section
open Go.RowKit
theorem mgR_c {K:Nat} (hk:K≠4) (A B:Nat):mgR K A B=mgQ (topC B) K A:=by
 funext s o
 unfold mgR
 rw [if_neg hk]
theorem o_1bg {K A B:Nat} (hsr:SmallR K A B) {s o:St} (hs:WellR K A B s.1 s.2.1 s.2.2) (ho:WellR K A B o.1 o.2.1 o.2.2) (n m:Nat) (hn:n≤3) (hm:m≤3):SmOK K A B (mrgG (mgR K A B) (atQ (smQ K A B s n)) (atQ (smQ K A B o m)))∧(∀p∈atQ (smQ K A B s n),WellR K A B p.1.1 p.1.2.1 p.1.2.2)∧(∀p∈atQ (smQ K A B o m),WellR K A B p.1.1 p.1.2.1 p.1.2.2) ∧
  Eqn Tryz.prog o_7s [.d (parD K A B),.d (.sl (atQ (smQ K A B s n)).length (spD rcD (atQ (smQ K A B s n)))),.d (.sl (atQ (smQ K A B o m)).length (spD rcD (atQ (smQ K A B o m))))] [] (.tup [.d (.sl (atQ (mrgG (mgR K A B) (atQ (smQ K A B s n)) (atQ (smQ K A B o m)))).length (spD rcD (atQ (mrgG (mgR K A B) (atQ (smQ K A B s n)) (atQ (smQ K A B o m)))))),.d (.int .i64 0)]) []:=by
 rcases hsr with ⟨rfl,h1,h2,h3⟩ | ⟨hk,hG⟩
 ·rcases hs with ⟨-,hs⟩ | ⟨h,-⟩
  rotate_left
  ·exact absurd rfl h
  rcases ho with ⟨-,ho⟩ | ⟨h,-⟩
  rotate_left
  ·exact absurd rfl h
  replace hs:okT A B s:=hs
  replace ho:okT A B o:=ho
  have hst:∀{s},okT A B s→∀i,SpOK (i*(B+(A+1)*B)) (okT A B) (dstT A B s i):=fun hs i=>SpOK.of (fun t (ht:okT A B t)=>SpOK.stepT ht) hs i
  have he:∀i,i≤3→i*(B+(A+1)*B)≤90:=fun i hi=>Nat.le_trans (Nat.mul_le_mul hi (Nat.add_le_add h3 (Nat.mul_le_mul (show A+1≤9 by omega) h3))) (by decide)
  have eN:=he n hn
  have eM:=he m hm
  obtain ⟨hmo,hout⟩:=o_1bf h1 h2 h3 (hst hs n).at (hst ho m).at (by omega) (by omega)
  have hls:=o_1ag h1 h2 h3 hout (by omega)
  exact ⟨⟨hout.uq,hout.one,hout.nn,_,_,_,_,hls⟩,fun p hp=>o_1ac ((hst hs n).at.ky p hp),fun p hp=>o_1ac ((hst ho m).at.ky p hp),o_17h hmo⟩
 ·rcases hs with ⟨h,-⟩ | ⟨-,k1,k2,k3⟩
  ·exact absurd h hk
  rcases ho with ⟨h,-⟩ | ⟨-,l1,l2,l3⟩
  ·exact absurd h hk
  replace hs:okQ (topC B) s:=⟨k2,k1,k3⟩
  replace ho:okQ (topC B) o:=⟨l2,l1,l3⟩
  have h8:2^B≤16:=Nat.pow_le_pow_right (n:=2) (by omega) hG.2.2
  have h7:topC B≤15:=by unfold topC;omega
  obtain ⟨c0,c1⟩:=o_15k hG
  obtain ⟨G0,hGp,hG63,hc⟩:=o_14z hG
  have sG:size G0≤1:=o_p8 (Nat.lt_of_le_of_lt hG63 (by decide))
  have pG:=fun n=>o_15i G0 sG n
  have p80:=fun n=>o_15i 80 (o_p8 (by decide)) n
  have ok:=fun {s} (hs:okQ (topC B) s) i=>ok_at (ok_of (c:=chP K A) c0 c1 hs i)
  have gr:=fun {s} (hs:okQ (topC B) s) i=>fun p (hp:p∈atQ (dstQ K A B s i))=>o_16z h7 c0 c1 (fun x hx=>hc x (by omega)) hs i p (List.mem_filter.1 ((o_12v _).mem_iff.1 hp)).1
  have on:∀s i,exQ (fun _=>1) (atQ (dstQ K A B s i))=1:=fun s i=>by rw [ex_at];exact o_13a _ _
  obtain ⟨G,M,hmo,Gp,Mp,Gs,Ms,hout,hok⟩:=o_1bd hG (ok hs n) (ok ho m) (uq_at (of_uq _ _ n)) (uq_at (of_uq _ _ m)) (on s n) (on o m) (Nat.pow_pos hGp) (Nat.pow_pos (by decide)) (Nat.pow_pos hGp) (Nat.pow_pos (by decide)) (by have:=pG n;omega) (by have:=p80 n;omega) (by have:=pG m;omega) (by have:=p80 m;omega) (gr hs n) (gr ho m)
  have hone:exQ (fun _=>1) (mrgG (mgQ (topC B) K A) (atQ (dstQ K A B s n)) (atQ (dstQ K A B o m)))=1:=o_1aw (on s n) (on o m) fun x _ y _=>o_173 _ _
  have hu:=o_1au (mg:=mgQ (topC B) K A) (atQ (dstQ K A B s n)) (atQ (dstQ K A B o m))
  have hl:=o_172 hu hok
  have hV:vlQ K A B=plQ (valC K A):=funext fun s=>by
   unfold vlQ valR plQ
   rw [if_neg hk]
  have hvg:∀x,x≤topC B→Gr (12^15) (2^24) (valC K A x):=fun x hx=>o_19x hG x (by omega)
  have hls:LsOK K A B (atQ (mrgG (mgQ (topC B) K A) (atQ (dstQ K A B s n)) (atQ (dstQ K A B o m)))) G (4913*M) (12^15) (2^24):=by
   have ok2:=ok_at hok
   refine ⟨Nat.le_trans (o_158 _) (by omega),by rw [ex_at];exact hone,Gp,Nat.mul_pos (by decide) Mp,by decide,by decide,by omega,?_,Nat.le_trans (o_p8 (by decide)) (by decide),Nat.le_trans (o_p8 (by decide)) (by decide),fun p hp=>wellQ hG (ok2 p hp).1,fun p hp=>hout p (List.mem_filter.1 ((o_12v _).mem_iff.1 hp)).1,fun p hp=>?_⟩
   ·have a1:=o_u7 4913 M
    have a2:size 4913≤1:=o_p8 (by decide)
    omega
   ·rw [hV];exact hvg _ (ok2 p hp).1.1
  have e1:∀s i,smQ K A B s i=dstQ K A B s i:=fun s i=>by unfold smQ;rw [if_neg hk]
  rw [e1,e1,mgR_c hk]
  exact ⟨⟨hu,hone,fun p hp=>(hok p hp).2,_,_,_,_,hls⟩,fun p hp=>wellQ hG (ok hs n p hp).1,fun p hp=>wellQ hG (ok ho m p hp).1,o_17h hmo⟩
end
section
open Go.RowKit
end
section
open Go.RowKit
def tyR (k a b n m:Nat) (cs:List Bool) (p:Nat) (d:Bool):TR :=
 let R:=addRM cs k a b n 0 0 false p d
 if R.e=0 then
  let S:=addRM cs k a b m 0 0 false R.p R.d
  if S.e=0 then mergeRM cs k a b R.y R.t R.f S.y S.t S.f S.p S.d else S
 else R
def rgT (K A B n m:Nat):CP St:=(rgA K A B n (0,0,false)).bind fun a=>(rgA K A B m (0,0,false)).bind fun b=>rgM K A B a b
theorem well0 (K A B:Nat):WellR K A B 0 0 false:=by
 unfold WellR WellT
 by_cases hk:K=4
 ·exact .inl ⟨hk,Nat.zero_le _,Nat.zero_le _,by simp⟩
 ·exact .inr ⟨hk,rfl,Nat.zero_le _,by simp⟩
theorem o_1bh {K A B:Nat} (hsr:SmallR K A B) (n m:Nat):Runs (fun cs p d=>trH (tyR K A B n m cs p d)) (rgT K A B n m):=by
 have hz:=well0 K A B
 refine o_18n (o_1az hsr (s:=(0,0,false)) hz n) (G:=fun a cs p d=>trH (if (addRM cs K A B m 0 0 false p d).e=0 then mergeRM cs K A B a.1 a.2.1 a.2.2 (addRM cs K A B m 0 0 false p d).y (addRM cs K A B m 0 0 false p d).t (addRM cs K A B m 0 0 false p d).f (addRM cs K A B m 0 0 false p d).p (addRM cs K A B m 0 0 false p d).d else addRM cs K A B m 0 0 false p d)) (fun a=>?_) (fun cs p hp he=>?_) fun cs p hp he=>?_
 ·refine o_18n (o_1az hsr (s:=(0,0,false)) hz m) (G:=fun b cs p d=>trH (mergeRM cs K A B a.1 a.2.1 a.2.2 b.1 b.2.1 b.2.2 p d)) (fun b=>o_1b5 hsr a b) (fun cs p hp he=>?_) fun cs p hp he=>?_
  ·replace he:(addRM cs K A B m 0 0 false p false).e=0:=he
   simp only [if_pos he]
   rfl
  ·replace he:(addRM cs K A B m 0 0 false p false).e=8:=he
   rw [if_neg (by rw [he];decide)]
   exact he
 ·replace he:(addRM cs K A B n 0 0 false p false).e=0:=he
  unfold tyR
  simp only [if_pos he]
  rfl
 ·replace he:(addRM cs K A B n 0 0 false p false).e=8:=he
  unfold tyR
  simp only
  rw [if_neg (by rw [he];decide)]
  exact he
theorem rgT_E {K A B:Nat} (hsr:SmallR K A B) (n m:Nat) (hn:n≤3) (hm:m≤3) (g:St→Rat):(rgT K A B n m).E g=exQ g (mrgG (mgR K A B) (atQ (smQ K A B (0,0,false) n)) (atQ (smQ K A B (0,0,false) m))):=by
 have hz:=well0 K A B
 obtain ⟨-,w1,w2,-⟩:=o_1bg hsr (s:=(0,0,false)) (o:=(0,0,false)) hz hz n m hn hm
 unfold rgT
 rw [CP.bind_E,rgA_E hsr (s:=(0,0,false)) hz,o_1av,←ex_at]
 refine o_19i fun p hp=>?_
 rw [CP.bind_E,rgA_E hsr (s:=(0,0,false)) hz,←ex_at]
 exact o_19i fun q hq=>rgM_E hsr (w1 p hp) (w2 q hq) g
end
section
open Go.RowKit
theorem o_1bi {ask:List Bool→St×Int} {u:St→St} (f:CP St) (key:∀pre,match f.O pre with
  | some (r,c)=>ask pre=(u r,0)
  | none=>(ask pre).2=8) (d:Nat) (h:(walkN ask d [] ([],0)).2=0) (s:St):(getN s (walkN ask d [] ([],0)).1:Rat)=((2^d:Nat):Rat)*f.E fun r=>if u r=s then 1 else 0:=by
 have hw:=o_1ai (ask:=ask) (s:=s) (D:=fun pre=>f.D pre fun r=>if u r=s then 1 else 0) (fun pre=>CP.d3 _ _ _ fun r=>by split<;>decide) (fun pre h=>?_) (fun pre h=>?_) d [] ([],0)
 ·obtain ⟨h1,h2⟩:=hw
  rw [h] at h2
  have e0:((getN s (([]:Wm),0).1:Nat):Rat)=0:=rfl
  have e2:((0:Nat):Rat)=0:=rfl
  rw [e0] at h1 h2
  simp only [e2] at h2
  refine Rat.le_antisymm ?_ ?_
  ·rw [Rat.zero_add] at h1;exact h1
  ·rw [Rat.add_zero,Rat.zero_add,Rat.add_zero] at h2;exact h2
 ·refine CP.d2 _ _ _ ?_
  have hk:=key pre
  cases ho:f.O pre with
  | none=>rfl
  | some rc =>
   rw [ho] at hk
   simp only at hk
   rw [hk] at h
   cases h
 ·have hk:=key pre
  cases ho:f.O pre with
  | none=>rw [ho] at hk;simp only at hk;rw [hk] at h;cases h
  | some rc =>
   rw [ho] at hk
   obtain ⟨r,c⟩:=rc
   simp only at hk
   rw [CP.d1 _ _ _ _ _ ho,hk]
   simp only [eq_comm]
def askW (k a b n m:Nat) (cs:List Bool):St×Int :=
 let R:=addRM cs k a b n 0 0 false 0 false
 if R.e=0 then
  let S:=addRM cs k a b m 0 0 false R.p R.d
  if S.e=0 then
   let T:=mergeRM cs k a b R.y R.t R.f S.y S.t S.f S.p S.d
   (if T.e=0 then (T.y,0,false) else (R.y,0,false),T.e)
  else ((0,0,false),S.e)
 else ((0,0,false),R.e)
def askV (k a b n:Nat) (cs:List Bool):St×Int :=
 let R:=addRM cs k a b n 0 0 false 0 false
 (if R.e=0 then (R.y,0,false) else (0,0,false),R.e)
def plS (s:St):St:=(s.1,0,false)
theorem keyW {k a b:Nat} (hsr:SmallR k a b) (n m:Nat) (pre:List Bool):match (rgT k a b n m).O pre with
  | some (r,c)=>askW k a b n m pre=(plS r,0)
  | none=>(askW k a b n m pre).2=8:=by
 have h:=o_1bh hsr n m pre 0 (Nat.zero_le _)
 rw [List.drop_zero] at h
 unfold tyR at h
 unfold askW
 simp only at h ⊢
 cases ho:(rgT k a b n m).O pre with
 | none =>
  rw [ho] at h
  simp only at h ⊢
  by_cases h1:(addRM pre k a b n 0 0 false 0 false).e=0
  ·rw [if_pos h1] at h ⊢
   generalize addRM pre k a b n 0 0 false 0 false=R at *
   by_cases h2:(addRM pre k a b m 0 0 false R.p R.d).e=0
   ·rw [if_pos h2] at h ⊢
    exact h
   ·rw [if_neg h2] at h ⊢
    exact h
  ·rw [if_neg h1] at h ⊢
   exact h
 | some rc =>
  obtain ⟨r,c⟩:=rc
  rw [ho] at h
  simp only at h ⊢
  by_cases h1:(addRM pre k a b n 0 0 false 0 false).e=0
  ·rw [if_pos h1] at h ⊢
   generalize addRM pre k a b n 0 0 false 0 false=R at *
   by_cases h2:(addRM pre k a b m 0 0 false R.p R.d).e=0
   ·rw [if_pos h2] at h ⊢
    generalize addRM pre k a b m 0 0 false R.p R.d=S at *
    simp only [trH,Prod.mk.injEq] at h
    obtain ⟨e1,e2,-,-⟩:=h
    rw [if_pos e2]
    exact Prod.ext (by rw [←e1];rfl) e2
   ·rw [if_neg h2] at h
    exact absurd (congrArg (fun x=>x.2.1) h) h2
  ·rw [if_neg h1] at h
   exact absurd (congrArg (fun x=>x.2.1) h) h1
theorem keyV {k a b:Nat} (hsr:SmallR k a b) (n:Nat) (pre:List Bool):match (rgA k a b n (0,0,false)).O pre with
  | some (r,c)=>askV k a b n pre=(plS r,0)
  | none=>(askV k a b n pre).2=8:=by
 have h:=o_1az hsr (s:=(0,0,false)) (well0 k a b) n pre 0 (Nat.zero_le _)
 rw [List.drop_zero] at h
 unfold askV
 simp only at h ⊢
 cases ho:(rgA k a b n (0,0,false)).O pre with
 | none=>rw [ho] at h;exact h
 | some rc =>
  obtain ⟨r,c⟩:=rc
  rw [ho] at h
  simp only [trH,Prod.mk.injEq] at h ⊢
  obtain ⟨e1,e2,-,-⟩:=h
  rw [if_pos e2]
  exact ⟨by rw [←e1];rfl,e2⟩
def indP (k x:Nat):Rat:=if x=k then 1 else 0
theorem o_1bj (k:Nat) (s:St):(if plS s=(k,0,false) then (1:Rat) else 0)=plQ (indP k) s:=by
 unfold plS plQ indP
 simp
theorem o_1bk (u v:Rat) (g h:St→Rat):∀l:Sp,exQ (fun s=>u*g s+v*h s) l=u*exQ g l+v*exQ h l
 | []=>by simp only [exQ];grind
 | p::l=>by simp only [exQ,o_1bk u v g h l];grind
def sprQ (c:Nat→Rat):Nat→Nat→Rat
 | 0,k=>if k=0 then 1 else 0
 | n+1,k=>sprQ c n k*(1-c k)+(if 0<k then sprQ c n (k-1)*c (k-1) else 0)
def ctop (top:Nat) (c:Nat→Rat) (x:Nat):Rat:=if x<top then c x else 0
theorem o_1bl {top:Nat} {c:Nat→Rat} {k x:Nat} (hk:k≤top) (hx:x≤top):SQ top c (indP k) x=(1-ctop top c k)*indP k x+(if 0<k then ctop top c (k-1)*indP (k-1) x else 0):=by
 unfold SQ indP ctop
 by_cases h1:x=top
 ·subst h1
  rw [if_pos rfl]
  by_cases h2:x=k
  ·subst h2
   rw [if_pos rfl,if_neg (Nat.lt_irrefl _)]
   by_cases h3:0<x
   ·rw [if_pos h3,if_neg (show ¬x=x-1 by omega)];grind
   ·rw [if_neg h3];grind
  ·rw [if_neg h2,if_pos (show k<x by omega)]
   by_cases h3:0<k
   ·rw [if_pos h3,if_neg (show ¬x=k-1 by omega)];grind
   ·rw [if_neg h3];grind
 ·rw [if_neg h1]
  by_cases h2:x=k
  ·subst h2
   rw [if_pos rfl,if_neg (show ¬x+1=x by omega),if_pos (show x<top by omega)]
   by_cases h3:0<x
   ·rw [if_pos h3,if_neg (show ¬x=x-1 by omega)];grind
   ·rw [if_neg h3];grind
  ·rw [if_neg h2]
   by_cases h3:x+1=k
   ·rw [if_pos h3,if_pos (show 0<k by omega),if_pos (show x=k-1 by omega),if_pos (show k-1<top by omega),show k-1=x by omega]
    grind
   ·rw [if_neg h3]
    by_cases h4:0<k
    ·rw [if_pos h4,if_neg (show ¬x=k-1 by omega)];grind
    ·rw [if_neg h4];grind
theorem o_1bm {top:Nat} {c:Nat→Rat} (hl:∀n,∀p∈ofQ (stepQ top c) (0,0,false) n,p.1.1≤top):∀(n k:Nat),k≤top→exQ (plQ (indP k)) (ofQ (stepQ top c) (0,0,false) n)=sprQ (ctop top c) n k
 | 0,k,hk=>by
  simp only [ofQ,exQ,plQ,indP,sprQ]
  by_cases h:k=0
  ·subst h;simp;grind
  ·rw [if_neg h,if_neg (fun e=>h e.symm)];grind
 | n+1,k,hk=>by
  show exQ (plQ (indP k)) (timesQ (stepQ top c) (ofQ (stepQ top c) (0,0,false) n))=_
  rw [o_16c]
  have e:exQ (plQ (SQ top c (indP k))) (ofQ (stepQ top c) (0,0,false) n)=exQ (fun s=>(1-ctop top c k)*plQ (indP k) s+(if 0<k then ctop top c (k-1)*plQ (indP (k-1)) s else 0)) (ofQ (stepQ top c) (0,0,false) n) :=
   o_19i fun p hp=>o_1bl hk (hl n p hp)
  rw [e]
  simp only [sprQ]
  by_cases h0:0<k
  ·have e2:(fun s=>(1-ctop top c k)*plQ (indP k) s+(if 0<k then ctop top c (k-1)*plQ (indP (k-1)) s else 0))=fun s=>(1-ctop top c k)*plQ (indP k) s+ctop top c (k-1)*plQ (indP (k-1)) s:=by
    funext s;rw [if_pos h0]
   rw [e2,o_1bk,o_1bm hl n k hk,o_1bm hl n (k-1) (by omega),if_pos h0]
   grind
  ·have e2:(fun s=>(1-ctop top c k)*plQ (indP k) s+(if 0<k then ctop top c (k-1)*plQ (indP (k-1)) s else 0))=fun s=>(1-ctop top c k)*plQ (indP k) s+0*plQ (indP k) s:=by
    funext s;rw [if_neg h0,Rat.zero_mul]
   rw [e2,o_1bk,o_1bm hl n k hk,if_neg h0]
   grind
end
section
open Go.RowKit
def chS (top k a j:Nat):T3:=if j<top then chT k a j else zero3
theorem o_1bn {k a w j:Nat} (h:GoodS k a w) (hj:j≤topC w):Eqn Tryz.prog o_94 [.d (.agg [.int .i64 k,.int .i64 a,.int .i64 w]),.d (.int .i64 j)] [] (.d (.agg (qc (chS (topC w) k a j)))) []:=by
 unfold chS
 by_cases hjt:j<topC w
 ·rw [if_pos hjt]
  exact o_16n h hjt
 ·rw [if_neg hjt]
  have e:j=topC w:=by omega
  subst e
  refine Eqn.pure o_96 Plain.ok ?_
  have ht:=o_16l k a w (by have:=h.2.2;omega)
  have hz:=o_11k 0 (by decide)
  have e0:((0:Nat):Int)=0:=rfl
  have hq0:qc zero3=[nD 0,nD 0,nD 1]:=rfl
  refine cc (c':=?z313) ?_ ?_
  case refine_1=>cbv<;>exact rfl
  try simp only [qD3,e0,hq0] at ht hz ⊢
  generalize topC w=TP at *
  generalize qD1:nD 0=D1 at *
  obtain ⟨nD1,lD1,rfl⟩:∃n l,D1=D.sl n l:=⟨_,_,qD1.symm⟩
  clear qD1
  generalize qD2:nD 1=D2 at *
  obtain ⟨nD2,lD2,rfl⟩:∃n l,D2=D.sl n l:=⟨_,_,qD2.symm⟩
  clear qD2
  refine A02 ht hz ?_;try with_reducible exact tt
theorem o_1bo {k a w j:Nat} (h:GoodS k a w) (hj:j≤topC w):BT 65 (chS (topC w) k a j)∧vT3 (chS (topC w) k a j)=ctop (topC w) (chP k a) j:=by
 have h15:topC w≤15:=by have:=Nat.pow_le_pow_right (n:=2) (by omega) h.2.2;unfold topC;omega
 unfold chS ctop
 split
 ·exact ⟨(o_17n h (by omega)).2,(o_17n h (by omega)).1⟩
 ·exact ⟨BT.zero (by omega),o_17l⟩
def bsS (top k a:Nat) (l:List T3) (j:Nat):T3:=mul3 (l.getD j zero3) (add3 one3 (turn3 (chS top k a j)))
def nxS (top k a:Nat) (l:List T3) (j:Nat):T3:=if 0<j then add3 (bsS top k a l j) (mul3 (l.getD (j-1) zero3) (chS top k a (j-1))) else bsS top k a l j
def stepS (top k a:Nat) (l:List T3):List T3:=(List.range (top+1)).map (nxS top k a l)
def sprT (top k a:Nat):Nat→List T3
 | 0=>startT top 0 false
 | n+1=>stepS top k a (sprT top k a n)
theorem o_1bp (top k a:Nat):∀n,(sprT top k a n).length=top+1
 | 0=>by simp [sprT,startT]
 | n+1=>by simp [sprT,stepS]
theorem o_1bq {l:List T3} {j:Nat} (h:l.length≤j):l.getD j zero3=zero3:=by
 rw [List.getD_eq_getElem?_getD,List.getElem?_eq_none h];rfl
theorem o_1br {k a w E:Nat} (h:GoodS k a w) (hE:1≤E) (l:List T3) (hl:∀j,BT E (l.getD j zero3)) (j:Nat) (hj:j≤topC w):BT (E+132) (bsS (topC w) k a l j) :=
 ((hl j).mul ((BT.one (E:=65) (by omega)).add ((o_1bo h hj).1.turn))).up (by omega)
theorem o_1bs {k a w E:Nat} (h:GoodS k a w) (hE:1≤E) (l:List T3) (hl:∀j,BT E (l.getD j zero3)) (j:Nat) (hj:j≤topC w):BT (2*E+275) (nxS (topC w) k a l j):=by
 have hb:=o_1br h hE l hl j hj
 unfold nxS
 split
 ·exact ((hb.up (F:=E+135) (by omega)).add (((hl (j-1)).mul (o_1bo h (show j-1≤topC w by omega)).1).up (F:=E+135) (by omega))).up (by omega)
 ·exact hb.up (by omega)
theorem o_1bt {k a w:Nat} (h:GoodS k a w):∀n j,BT (eB n) ((sprT (topC w) k a n).getD j zero3)
 | 0,j=>by
  show BT 1 ((startT (topC w) 0 false).getD j zero3)
  rcases Nat.lt_or_ge j (topC w+1) with hj | hj
  ·unfold startT
   rw [o_17p _ _ _ _ hj]
   split
   ·exact BT.one (Nat.le_refl _)
   ·exact BT.zero (Nat.le_refl _)
  ·rw [o_1bq (by simp [startT];omega)]
   exact BT.zero (Nat.le_refl _)
 | n+1,j=>by
  have hE:=o_17o n
  rcases Nat.lt_or_ge j (topC w+1) with hj | hj
  ·show BT _ ((stepS (topC w) k a (sprT (topC w) k a n)).getD j zero3)
   unfold stepS
   rw [o_17p _ _ _ _ hj]
   exact o_1bs h hE _ (o_1bt h n) j (by omega)
  ·rw [o_1bq (by rw [o_1bp];omega)]
   exact BT.zero (by rw [eB];omega)
theorem o_1bu {k a w:Nat} (h:GoodS k a w):∀n j,j≤topC w→vT3 ((sprT (topC w) k a n).getD j zero3)=sprQ (ctop (topC w) (chP k a)) n j
 | 0,j,hj=>by
  show vT3 ((startT (topC w) 0 false).getD j zero3)=_
  unfold startT
  rw [o_17p _ _ _ _ (by omega)]
  simp only [sprQ,true_and]
  split
  ·exact o_17m
  ·exact o_17l
 | n+1,j,hj=>by
  have hb:=o_1bt (k:=k) (a:=a) h n
  have hE:=o_17o n
  have ih:=o_1bu h n
  show vT3 ((stepS (topC w) k a (sprT (topC w) k a n)).getD j zero3)=_
  unfold stepS
  rw [o_17p _ _ _ _ (by omega)]
  have hbs:vT3 (bsS (topC w) k a (sprT (topC w) k a n) j)=sprQ (ctop (topC w) (chP k a)) n j*(1-ctop (topC w) (chP k a) j):=by
   have c:=o_1bo h hj
   unfold bsS
   rw [o_17j (hb j) ((BT.one (E:=65) (by omega)).add c.1.turn),o_17i (BT.one (E:=65) (by omega)) c.1.turn,o_17k,o_17m,ih j hj,c.2]
   grind
  unfold nxS
  simp only [sprQ]
  by_cases h0:0<j
  ·have c:=o_1bo h (show j-1≤topC w by omega)
   rw [if_pos h0,if_pos h0,o_17i (o_1br h hE _ hb j hj) ((hb (j-1)).mul c.1),hbs,o_17j (hb (j-1)) c.1,ih (j-1) (by omega),c.2]
  ·rw [if_neg h0,if_neg h0,hbs]
   grind
set_option maxHeartbeats 8000000 in
theorem o_1bv {k a w:Nat} (h:GoodS k a w) (n:Nat) (hn:n≤7):Eqn Tryz.prog o_7g [.d (.agg [.int .i64 k,.int .i64 a,.int .i64 w]),.d (.int .i64 n)] [] (.d (.sl (topC w+1) ((sprT (topC w) k a n).flatMap qc))) []:=by
 refine Eqn.pure o_7i Plain.ok ?_
 have h15:topC w≤15:=by have:=Nat.pow_le_pow_right (n:=2) (by omega) h.2.2;unfold topC;omega
 have htop:=o_16l k a w (by have:=h.2.2;omega)
 have hz:=o_11k 0 (by decide)
 have ho:=o_11k 1 (by decide)
 have e0:((0:Nat):Int)=0:=rfl
 have e1:((1:Nat):Int)=1:=rfl
 obtain ⟨TP,hTP⟩:∃TP,TP=topC w:=⟨_,rfl⟩
 have hqz:qv zero3=[.d (nD 0),.d (nD 0),.d (nD 1)]:=rfl
 have hqo:qv one3=[.d (nD 1),.d (nD 0),.d (nD 1)]:=rfl
 have hchA:=fun j (hj:j≤topC w)=>o_1bn (j:=j) h hj
 have hcbA:=fun j (hj:j≤topC w)=>(o_1bo (j:=j) h hj).1
 have hbA:=fun m=>o_1bt (k:=k) (a:=a) h m
 rw [←hTP] at hchA hcbA hbA htop h15
 simp only [←hTP]
 have ewT:IntKind.i64.wrap ((TP:Int)+1)=((TP+1:Nat):Int):=by rw [w64 (by omega) (by omega)];omega
 refine cc (c':=?z314) ?_ ?_
 case refine_1=>cbv<;>exact rfl
 try simp only [qD3,e0,e1] at hz ho ⊢
 obtain ⟨n0,l0,q0⟩:∃n l,nD 0=D.sl n l:=⟨_,_,rfl⟩
 obtain ⟨n1,l1,q1⟩:∃n l,nD 1=D.sl n l:=⟨_,_,rfl⟩
 rw [q0,q1] at hz ho hqz hqo
 clear hTP
 refine A11 ewT htop ?_;try with_reducible exact tt
 rw [flat3]
 refine AW.loopG (α:=Nat×List D) (fun z=>setS (List.replicate 79 .junk) [(1,.d (.int .i64 n)),(2,.p 0 0),(5,.own 1 3 (TP+1)),(6,.d (.int .i64 (z.1:Nat)))]) (fun z=>[some ⟨23,[.d (.int .i64 k),.d (.int .i64 a),.d (.int .i64 w)]⟩,some ⟨56,z.2.map .d⟩]) (fun z=>z.1≤TP+1∧holdT (z.2.map .d) (TP+1) (fun _=>zero3) z.1) (fun z=>TP+1-z.1) (0,List.replicate ((TP+1)*3) .nilsl) ?_ ⟨Nat.zero_le _,by simp,fun i hi=>by omega⟩ ?_ ?_ ?_
 ·intro z hz;simp
 ·simp
 ·simp
 rintro ⟨i,R⟩ ⟨hi,hR⟩
 simp only at hi hR
 simp
 have hRl:R.length=(TP+1)*3:=by have:=hR.1;simpa using this
 by_cases hi2:i≤TP
 ·have hi3:(i:Int)<(TP:Int)+1:=by omega
  have hi4:i<TP+1:=by omega
  have ew:IntKind.i64.wrap ((i:Int)+1)=((i+1:Nat):Int):=by rw [w64 (by omega) (by omega)];omega
  have b6:i*3+3≤(TP+1)*3:=by omega
  have b9:i*3<(TP+1)*3:=by omega
  have hset:=hR.set (by omega:i<TP+1)
  rw [hqz,←o_183] at hset
  have fz:=o_182 R (i*3) (.sl n0 l0) (.sl n0 l0) (.sl n1 l1)
  generalize wq3 R (i*3) (.sl n0 l0) (.sl n0 l0) (.sl n1 l1)=R1 at *
  clear hR
  refine A11 (fs hi2 (fs hi3 (fs hi4 (fs ew (fs b6 (fs b9 (fs hRl fz))))))) hz ?_;try with_reducible exact tt
  refine ⟨i+1,R1,1,1,⟨by omega,by omega⟩,⟨by omega,hset⟩,by omega,?_,?_⟩
  ·simp [swT,swH,sw,Ob.sw,V.ren,V.rens]
  ·simp [swT,swH,sw,Ob.sw,V.ren,V.rens]
 have h2:i=TP+1:=by omega
 subst h2
 have hRe:=hR.eq
 have hi3:¬((TP+1:Nat):Int)<(TP:Int)+1:=by omega
 have hst1:(wq3 R 0 (.sl n1 l1) (.sl n0 l0) (.sl n1 l1)).map V.d=rT (startT TP 0 false):=by
  rw [o_183,←hqo,hRe]
  have hl:(rT ((List.range (TP+1)).map fun _=>zero3)).length=(TP+1)*3:=by rw [o_17s];simp
  refine holdT.eq (m:=TP+1) (g:=fun j=>if false=false∧j=0 then one3 else zero3) ⟨by rw [o_5,hl],fun i hi=>?_⟩
  have h3:(qv one3).length=3:=rfl
  show _=qv (if false=false∧i=0 then one3 else zero3)
  by_cases e:i=0
  ·subst e
   rw [if_pos ⟨rfl,rfl⟩]
   exact o_17q (o:=0) (c:=qv one3) (by rw [h3,hl];omega)
  ·rw [if_neg (fun e'=>e e'.2),o_17r (o:=0) (by rw [h3,hl];omega) (by rw [h3];omega),o_17t _ _ (by simpa using hi)]
   rw [o_17p _ _ _ _ hi]
 have fo:=o_182 R 0 (.sl n1 l1) (.sl n0 l0) (.sl n1 l1)
 simp only [Nat.zero_add,Nat.reduceAdd] at fo
 rw [hst1] at fo
 have b6:3≤(TP+1)*3:=by omega
 have b9:0<(TP+1)*3:=by omega
 have b7:(0:Int)<(TP:Int)+1:=by omega
 clear hR hRe hst1 hqz hqo
 refine A11 (fs hi3 (fs hRl (fs fo (fs b6 (fs b7 b9))))) ho ?_;try with_reducible exact tt
 refine AW.loopG (α:=Nat) (fun m=>setS (List.replicate 79 .junk) [(1,.d (.int .i64 n)),(2,.p 0 0),(5,.own 1 3 (TP+1)),(7,.d (.int .i64 (m:Nat)))]) (fun m=>[some ⟨23,[.d (.int .i64 k),.d (.int .i64 a),.d (.int .i64 w)]⟩,some ⟨56,rT (sprT TP k a m)⟩]) (fun m=>m≤n) (fun m=>n-m) 0 ?_ (Nat.zero_le _) ?_ ?_ ?_
 ·intro m hm;simp
 ·simp
 ·simp [sprT]
 clear fo hRl hi hi2 hi3
 rintro m hm
 have hlA:=o_1bp TP k a m
 have hrA:=o_17s (sprT TP k a m)
 rw [hlA] at hrA
 by_cases hm2:m<n
 ·have hm3:(m:Int)<n:=by omega
  have hE:=eB_le m (by omega)
  have hbA:=hbA m
  have hgA:=fun j (hj:j<TP+1)=>o_17t (sprT TP k a m) j (by rw [hlA];exact hj)
  have ewm:IntKind.i64.wrap ((m:Int)+1)=((m+1:Nat):Int):=by rw [w64 (by omega) (by omega)];omega
  have hstep:sprT TP k a (m+1)=stepS TP k a (sprT TP k a m):=rfl
  generalize sprT TP k a m=L at *
  have hRAl:=fun n=>o_17w n L
  have hRAr:=fun θ=>o_17x θ L
  generalize hRA:rT L=RA at *
  simp
  refine A10 (fs hm2 (fs hm3 hrA)) ?_;try with_reducible exact tt
  rw [flat3]
  refine AW.loopG (α:=Nat×List D) (fun z=>setS (List.replicate 79 .junk) [(1,.d (.int .i64 n)),(2,.p 0 0),(5,.own 1 3 (TP+1)),(7,.d (.int .i64 (m:Nat))),(8,.own 2 3 (TP+1)),(9,.d (.int .i64 (z.1:Nat)))]) (fun z=>[some ⟨23,[.d (.int .i64 k),.d (.int .i64 a),.d (.int .i64 w)]⟩,some ⟨56,RA⟩,some ⟨56,z.2.map .d⟩]) (fun z=>z.1≤TP+1∧holdT (z.2.map .d) (TP+1) (nxS TP k a L) z.1) (fun z=>TP+1-z.1) (0,List.replicate ((TP+1)*3) .nilsl) ?_ ⟨Nat.zero_le _,by simp,fun i hi=>by omega⟩ ?_ ?_ ?_
  ·intro z hz;simp
  ·simp
  ·simp [hRAl]
  rintro ⟨j,R⟩ ⟨hj,hR⟩
  simp only at hj hR
  simp
  have hRl:R.length=(TP+1)*3:=by have:=hR.1;simpa using this
  by_cases hj2:j≤TP
  ·have hj3:(j:Int)<(TP:Int)+1:=by omega
   have hj4:j<TP+1:=by omega
   have ewj:IntKind.i64.wrap ((j:Int)+1)=((j+1:Nat):Int):=by rw [w64 (by omega) (by omega)];omega
   have b6:j*3+3≤(TP+1)*3:=by omega
   have b9:j*3<(TP+1)*3:=by omega
   have hLj:=hgA j (by omega)
   have hset:=hR.set (by omega:j<TP+1)
   obtain ⟨g1,g2,g3,hg,hgv⟩:=qc3 (nxS TP k a L j)
   rw [hgv,←o_183] at hset
   obtain ⟨x1,x2,x3,hX,hXv⟩:=qc3 (L.getD j zero3)
   rw [hXv] at hLj
   have hch:=hchA j hj2
   have hcb:=hcbA j hj2
   have htu:=o_180 (chS TP k a j)
   have hb1:=(BT.one (E:=65) (by omega)).add hcb.turn
   have had1:=o_17y (BT.one (E:=65) (by omega)) hcb.turn (by omega)
   have hmu:=o_17z ((hbA j).up (F:=eB m+131) (by omega)) (hb1.up (F:=eB m+131) (by omega)) (by omega)
   have hb2:=(hbA j).mul hb1
   have hbs:bsS TP k a L j=mul3 (L.getD j zero3) (add3 one3 (turn3 (chS TP k a j))):=rfl
   rw [←hbs] at hmu hb2
   rw [hX] at hmu
   obtain ⟨c1,c2,c3,hC,-⟩:=qc3 (chS TP k a j)
   obtain ⟨u1,u2,u3,hU,-⟩:=qc3 (turn3 (chS TP k a j))
   obtain ⟨v1,v2,v3,hV,-⟩:=qc3 (add3 one3 (turn3 (chS TP k a j)))
   obtain ⟨w1,w2,wq3',hW,-⟩:=qc3 (bsS TP k a L j)
   have hq1:qc one3=[.sl n1 l1,.sl n0 l0,.sl n1 l1]:=by
    show [nD 1,nD 0,nD 1]=_
    rw [q0,q1]
   rw [hC] at hch
   rw [hC,hU] at htu
   rw [hq1,hU,hV] at had1
   rw [hV,hW] at hmu
   have fb:=o_182 R (j*3) w1 w2 wq3'
   have fbl:=o_181 R (j*3) w1 w2 wq3'
   have fbg:=o_185 R (j*3) w1 w2 wq3' (by omega)
   rw [hRl] at fbl
   by_cases hj0:0<j
   ·have hj03:(0:Int)<j:=by omega
    obtain ⟨j1,hj1⟩:∃j1,j=j1+1:=⟨j-1,by omega⟩
    have ewj1:IntKind.i64.wrap ((j:Int)-1)=(j1:Int):=by rw [w64 (by omega) (by omega)];omega
    have hLk:=hgA j1 (by omega)
    obtain ⟨y1,y2,y3,hYy,hYyv⟩:=qc3 (L.getD j1 zero3)
    rw [hYyv] at hLk
    have hch2:=hchA j1 (by omega)
    have hcb2:=hcbA j1 (by omega)
    have hmu2:=o_17z ((hbA j1).up (F:=eB m+65) (by omega)) (hcb2.up (F:=eB m+65) (by omega)) (by omega)
    have hb3:=(hbA j1).mul hcb2
    have had2:=o_17y (hb2.up (F:=eB m+135) (by omega)) (hb3.up (F:=eB m+135) (by omega)) (by omega)
    have hnx:nxS TP k a L j=add3 (bsS TP k a L j) (mul3 (L.getD j1 zero3) (chS TP k a j1)):=by
     unfold nxS
     rw [if_pos hj0,show j-1=j1 by omega]
    rw [←hnx,hg,hW] at had2
    obtain ⟨d1,d2,d3,hD,-⟩:=qc3 (chS TP k a j1)
    obtain ⟨e1',e2',e3',hE',-⟩:=qc3 (mul3 (L.getD j1 zero3) (chS TP k a j1))
    rw [hD] at hch2
    rw [hYy,hD,hE'] at hmu2
    rw [hE'] at had2
    have k6:j1*3+3≤(TP+1)*3:=by omega
    have k7:(j1:Int)<(TP:Int)+1:=by omega
    have k8:j1<TP+1:=by omega
    have k9:j1*3<(TP+1)*3:=by omega
    have fc:=o_182 (wq3 R (j*3) w1 w2 wq3') (j*3) g1 g2 g3
    rw [o_184 _ _ _ _ _ _ _ _ (by omega)] at fc
    generalize wq3 R (j*3) w1 w2 wq3'=R2 at *
    generalize wq3 R (j*3) g1 g2 g3=R3 at *
    clear hX hC hU hV hW hYy hD hE' hb1 hb2 hb3 hcb hcb2 hbs hnx hg hgv hXv hYyv hbA hgA hR hchA hcbA
    refine A18 (fs hj2 (fs hj3 (fs hj4 (fs hRl (fs fb (fs fbl (fs fbg (fs fc (fs hj0 (fs hj03 (fs b6 (fs b9 (fs hLj (fs hLk (fs ewj1 (fs k6 (fs k7 (fs k8 (fs k9 (fs hrA ewj)))))))))))))))))))) ho hch htu had1 hmu hch2 hmu2 had2 ?_;try with_reducible exact tt
    refine ⟨j+1,R3,2,2,⟨by omega,by omega⟩,⟨by omega,hset⟩,by omega,?_,?_⟩
    ·simp [swT,swH,sw,Ob.sw,V.ren,V.rens]
    ·simp [swT,swH,sw,Ob.sw,V.ren,V.rens,hRAl,hRAr]
   ·have hj03:¬(0:Int)<j:=by omega
    have hnx:nxS TP k a L j=bsS TP k a L j:=if_neg hj0
    rw [hnx,hW] at hg
    obtain ⟨rfl,rfl,rfl⟩:w1=g1∧w2=g2∧wq3'=g3:=by simpa using hg
    generalize wq3 R (j*3) w1 w2 wq3'=R2 at *
    clear hX hC hU hV hW hb1 hb2 hcb hbs hnx hg hgv hXv hbA hgA hR hchA hcbA
    refine A16 (fs hj2 (fs hj3 (fs hj4 (fs hRl (fs fb (fs fbl (fs fbg (fs hj0 (fs hj03 (fs b6 (fs b9 (fs hLj (fs hrA ewj))))))))))))) ho hch htu had1 hmu hmu ?_;try with_reducible exact tt
    refine ⟨j+1,R2,2,2,⟨by omega,by omega⟩,⟨by omega,hset⟩,by omega,?_,?_⟩
    ·simp [swT,swH,sw,Ob.sw,V.ren,V.rens]
    ·simp [swT,swH,sw,Ob.sw,V.ren,V.rens,hRAl,hRAr]
  ·have h2:j=TP+1:=by omega
   subst h2
   have hRe:=hR.eq
   have hstp:(List.range (TP+1)).map (nxS TP k a L)=stepS TP k a L:=rfl
   rw [hstp,←hstep] at hRe
   have hj3:¬((TP+1:Nat):Int)<(TP:Int)+1:=by omega
   rw [hRe]
   refine A10 (fs hj3 ewm) ?_;try with_reducible exact tt
   refine ⟨m+1,1,2,⟨by omega,by omega⟩,by omega,by omega,?_,?_⟩
   ·simp [swT,swH,sw,Ob.sw,V.ren,V.rens]
   ·simp [swT,swH,sw,Ob.sw,V.ren,V.rens]
 ·have h2:m=n:=by omega
  subst h2
  generalize hLL:sprT TP k a m=L at *
  have hfl:(L.flatMap qc).length=(TP+1)*3:=by rw [←hrA,rT,List.length_map]
  have htk:(L.flatMap qc).take ((TP+1)*3)=L.flatMap qc:=List.take_of_length_le (by omega)
  refine AW.freeze 1 3 ⟨56,rT L⟩ (L.flatMap qc) (by simp) rfl ?_
  simp [frzH,htk]
  refine A00 ?_;try with_reducible exact tt
  done
end
section
open Go.RowKit
theorem o_1bw (k a w:Int):∃K A W:Nat,GoodS K A W∧W≤3∧Eqn Tryz.prog o_6v [.d (parD k a w),.d (.int .i64 3)] [] (.d (parD K A W)) []:=by
 obtain ⟨e1,K,e2,hK,e3⟩:=o_ye k 3 (by omega) (by omega)
 obtain ⟨e4,W,e5,hW,e6⟩:=o_ye w 3 (by omega) (by omega)
 obtain ⟨A1,a1,a2,a3⟩:=o_yf a 3 (by omega)
 obtain ⟨A2,a4,a5,a6⟩:=o_yf a 1 (by omega)
 replace a1:bits BinOp.and IntKind.i64 a 3=A1:=a1
 replace a4:bits BinOp.and IntKind.i64 a 1=A2:=a4
 have main:∀A:Nat,(K=0∧A=1+A1∨K=1∧A=A2∨K=2∧A=1+A2)→Eqn Tryz.prog o_6v [.d (parD k a w),.d (.int .i64 3)] [] (.d (parD (1+K:Nat) A (1+W:Nat))) []:=by
  intro A hA
  refine Eqn.pure o_6x (o_5e _) ?_
  refine cc (c':=?z315) ?_ ?_
  case refine_1=>cbv<;>exact rfl
  try simp only [parD]
  rcases hA with ⟨rfl,rfl⟩ | ⟨rfl,rfl⟩ | ⟨rfl,rfl⟩
  ·refine G1 (fs e1 (fs e2 (fs e3 (fs e4 (fs e5 e6))))) ?_;try with_reducible exact tt
   refine AW.cond rfl (fun h=>?_) (fun h=>?_)
   ·refine G1 (fs a1 a3) ?_;try with_reducible exact tt
   ·simp at h
  ·refine G1 (fs e1 (fs e2 (fs e3 (fs e4 (fs e5 e6))))) ?_;try with_reducible exact tt
   refine AW.cond rfl (fun h=>?_) (fun h=>?_)
   ·simp at h
   refine G0 ?_;try with_reducible exact tt
   refine AW.cond rfl (fun h=>?_) (fun h=>?_)
   ·refine G1 a4 ?_;try with_reducible exact tt
   ·simp at h
  ·refine G1 (fs e1 (fs e2 (fs e3 (fs e4 (fs e5 e6))))) ?_;try with_reducible exact tt
   refine AW.cond rfl (fun h=>?_) (fun h=>?_)
   ·simp at h
   refine G0 ?_;try with_reducible exact tt
   refine AW.cond rfl (fun h=>?_) (fun h=>?_)
   ·simp at h
   ·refine G1 (fs a4 a6) ?_;try with_reducible exact tt
 have hK':K=0∨K=1∨K=2:=by omega
 rcases hK' with rfl | rfl | rfl
 ·exact ⟨_,_,_,⟨by omega,by omega,by omega⟩,by omega,main (1+A1) (by omega)⟩
 ·exact ⟨_,_,_,⟨by omega,by omega,by omega⟩,by omega,main A2 (by omega)⟩
 ·exact ⟨_,_,_,⟨by omega,by omega,by omega⟩,by omega,main (1+A2) (by omega)⟩

def arrW (X:Wm):List D:=(List.range 16).map fun k=>.int .i64 (getN (k,0,false) X)
@[simp] theorem o_1bx (X:Wm):(arrW X).length=16:=by simp [arrW]
theorem o_1by (X:Wm) {k:Nat} (hk:k<16):(arrW X)[k]?=some (.int .i64 (getN (k,0,false) X)):=by
 unfold arrW
 rw [List.getElem?_map,List.getElem?_range hk];rfl
theorem o_1bz (X:Wm) {k:Nat} (w:Nat) (hk:k<16):(arrW X).set k (.int .i64 ((getN (k,0,false) X+w:Nat):Int))=arrW (addN X (k,0,false) w):=by
 apply List.ext_getElem?
 intro i
 rw [List.getElem?_set]
 by_cases h:k=i
 ·subst h
  rw [if_pos rfl,if_pos (by simpa using hk),o_1by _ hk]
  simp [addN,o_18y]
 ·rw [if_neg h]
  by_cases hi:i<16
  ·rw [o_1by _ hi,o_1by _ hi]
   have:¬i=k:=fun e=>h e.symm
   simp [addN,o_18y,this]
  ·rw [List.getElem?_eq_none (by simp;omega),List.getElem?_eq_none (by simp;omega)]
def wvH (A:FuncId) (T6 T7 T8:TypeId) (c6 c7 c8:List D) (X:Wm×Nat):List Ob :=
 [⟨38,[.fn (.func A) [.p 5 0,.p 6 0,.p 7 0]]⟩,⟨3,[.d (.int .i64 12)]⟩,⟨96,[.fn (.func o_8a) [.p 0 0,.p 1 0,.p 2 0,.p 3 0,.p 4 0]]⟩,⟨28,(arrW X.1).map .d⟩,⟨3,[.d (.int .i64 X.2)]⟩,⟨T6,c6.map .d⟩,⟨T7,c7.map .d⟩,⟨T8,c8.map .d⟩]
structure AskV (A:FuncId) (T6 T7 T8:TypeId) (c6 c7 c8:List D) (ask:List Bool→St×Int):Prop where
 t6:T6<1000000
 t7:T7<1000000
 t8:T8<1000000
 ok:∀cs,(ask cs).2=0→(ask cs).1.1<16∧(ask cs).1.2=(0,false)
 run:∀cs:List Bool,cs.length≤20→∃p dd,Eqn Tryz.prog A [.p 0 0,.p 1 0,.p 2 0,.p 3 0] [tapeO cs 0 false,⟨T6,c6.map .d⟩,⟨T7,c7.map .d⟩,⟨T8,c8.map .d⟩] (.tup [.d (.int .i64 (ask cs).1.1),.d (.int .i64 (ask cs).2)]) [tapeO cs p dd,⟨T6,c6.map .d⟩,⟨T7,c7.map .d⟩,⟨T8,c8.map .d⟩]
set_option maxHeartbeats 8000000 in
theorem o_1c0 {A:FuncId} {T6 T7 T8:TypeId} {c6 c7 c8:List D} {ask:List Bool→St×Int} (h:AskV A T6 T7 T8 c6 c7 c8 ask) (d:Nat) (ih:d≠0→∀(pre:List Bool) (X:Wm×Nat),pre.length+(d-1)=12→X.2+2^(d-1)≤2^40→(∀s,getN s X.1+2^(d-1)≤2^40) →
  Eqn Tryz.prog o_8a [.d (.sl pre.length (pre.map .bool)),.p 0 0,.p 1 0,.p 2 0,.p 3 0,.p 4 0] (wvH A T6 T7 T8 c6 c7 c8 X) (.tup []) (wvH A T6 T7 T8 c6 c7 c8 (walkN ask (d-1) pre X))) (pre:List Bool) (X:Wm×Nat) (hl:pre.length+d=12) (h1:X.2+2^d≤2^40) (h2:∀s,getN s X.1+2^d≤2^40) :
  Eqn Tryz.prog o_8a [.d (.sl pre.length (pre.map .bool)),.p 0 0,.p 1 0,.p 2 0,.p 3 0,.p 4 0] (wvH A T6 T7 T8 c6 c7 c8 X) (.tup []) (wvH A T6 T7 T8 c6 c7 c8 (walkN ask d pre X)):=by
 obtain ⟨L,op⟩:=X
 simp only at h1 h2
 obtain ⟨p,dd,hr⟩:=h.run pre (by omega)
 have hnw:=o_xe pre (by omega)
 simp only [BL] at hnw
 have g6:=h.t6
 have g7:=h.t7
 have g8:=h.t8
 have e1:IntKind.i64.wrap (12-(pre.length:Int))=(d:Int):=by rw [w64 (by omega) (by omega)];omega
 obtain ⟨w,hw⟩:∃w,w=2^d:=⟨_,rfl⟩
 have hw1:1≤w:=by rw [hw];exact Nat.two_pow_pos d
 have e2:IntKind.i64.wrap ((2:Int)^d)=(w:Int):=by
  have:((2:Int)^d)=(w:Int):=by rw [hw,Int.natCast_pow];rfl
  rw [this,w64 (by omega) (by omega)]
 have e3:(0:Int)≤d∧d≤64:=by omega
 have e5:d≤64:=by omega
 have e4:((d:Int)).toNat=d:=by omega
 refine Eqn.gen [0,1,2,3,4,5,6,7] o_8c (by simp [wvH]) (by simp [wvH]) (by rfl) (by decide) (by simp [wvH,o_62]) (by simp [wvH,h.t6,h.t7,h.t8,o_62]) ?_
 obtain ⟨R,hR⟩:∃R,R=walkN ask d pre (L,op):=⟨_,rfl⟩
 rw [←hR]
 have hask:∃s1 s2 s3 e,ask pre=((s1,s2,s3),e):=⟨_,_,_,_,rfl⟩
 obtain ⟨s1,s2,s3,e,hask⟩:=hask
 rw [hask] at hr
 refine cc (c':=?z316) ?_ ?_
 case refine_1=>cbv<;>exact rfl
 try simp only [wvH,stD] at hr ih ⊢
 refine A00 ?_;try with_reducible exact tt
 refine CallS.n1 (hnw) (R0 ?_);try with_reducible exact tt
 have hsm:=h2 (s1,s2,s3)
 have hok:=h.ok pre
 rw [hask] at hok
 simp only at hok
 have hwk:walkN ask d pre (L,op)=if e=8∧d≠0 then walkN ask (d-1) (pre++[true]) (walkN ask (d-1) (pre++[false]) (L,op)) else if e=0 then (addN L (s1,s2,s3) w,op) else (L,op+w):=by
  cases d with
  | zero=>unfold walkN;rw [hask,hw];simp
  | succ d =>
   have hd1:walkN ask (d+1) pre (L,op)=(if (ask pre).2=8 then walkN ask d (pre++[true]) (walkN ask d (pre++[false]) (L,op)) else if (ask pre).2=0 then (addN L (ask pre).1 (2^(d+1)),op) else (L,op+2^(d+1))):=rfl
   rw [hd1,hask,hw]
   simp
 rw [hwk] at hR
 by_cases he:e=8
 ·subst he
  rcases Nat.eq_zero_or_pos d with hd | hd
  ·have hk:¬(pre.length:Int)<12:=by omega
   have hk2:¬pre.length<12:=by omega
   rw [if_neg (by simp [hd]),if_neg (by decide)] at hR
   subst hR
   have ew:IntKind.i64.wrap ((op:Int)+(w:Int))=((op+w:Nat):Int):=by rw [w64 (by omega) (by omega)];omega
   refine CallS.g [8,5,6,7] (hr) (R1 (fs e1 (fs e2 (fs e3 (fs e4 (fs e5 (fs hk hk2)))))) ?_);try with_reducible exact tt
   refine A10 (fs hk hk2) ?_;try with_reducible exact tt
   exact Subs.refl _
  ·have hk:(pre.length:Int)<12:=by omega
   have hk2:pre.length<12:=by omega
   have hp2:pre.length≤140737488355327:=by omega
   refine CallS.g [8,5,6,7] (hr) (R1 (fs e1 (fs e2 (fs e3 (fs e4 (fs e5 (fs hk hk2)))))) ?_);try with_reducible exact tt
   have hd1:d-1+1=d:=by omega
   have hw2:w=2^(d-1)+2^(d-1):=by rw [hw,←hd1,Nat.pow_succ];simp;omega
   obtain ⟨k1,k2⟩:=o_18z (ask:=ask) (d-1) (pre++[false]) (L,op)
   have i1:=ih (by omega) (pre++[false]) (L,op) (by simp;omega) (by simp only;omega) (fun s=>by have:=h2 s;simp only;omega)
   have i2:=ih (by omega) (pre++[true]) (walkN ask (d-1) (pre++[false]) (L,op)) (by simp;omega) (by simp only at k1;omega) (fun s=>by have:=k2 s;have:=h2 s;simp only at *;omega)
   rw [if_pos ⟨rfl,by omega⟩] at hR
   rw [←hR] at i2
   generalize walkN ask (d-1) (pre++[false]) (L,op)=Y at *
   by_cases hnil:pre=[]
   ·subst hnil
    simp at i1 i2
    refine A10 (fs hk (fs hk2 hp2)) ?_;try with_reducible exact tt
    refine CallS.gf 10 1 ⟨4,_⟩ [.bool false] [0,1,2,3,4,5,6,7] (i1) (R0 ?_);try with_reducible exact tt
    refine CallS.gf 12 1 ⟨4,_⟩ [.bool true] [0,1,2,3,4,5,6,7] (i2) (R0 ?_);try with_reducible exact tt
   ·simp only [List.length_append,List.length_singleton,List.map_append,List.map_cons,List.map_nil] at i1 i2
    have tk1:(pre.map D.bool++[D.bool false]).take ((pre.length+1)*1)=pre.map D.bool++[D.bool false]:=List.take_of_length_le (by simp)
    have tk2:(pre.map D.bool++[D.bool true]).take ((pre.length+1)*1)=pre.map D.bool++[D.bool true]:=List.take_of_length_le (by simp)
    have tk0:List.take pre.length (List.map (V.d ∘ D.bool) pre)=List.map (V.d ∘ D.bool) pre:=List.take_of_length_le (by simp)
    rw [←tk1] at i1
    rw [←tk2] at i2
    refine A10 (fs hk (fs hk2 (fs hp2 (fs hnil tk0)))) ?_;try with_reducible exact tt
    refine CallS.gf 10 1 ⟨4,_⟩ (pre.map D.bool++[D.bool false]) [0,1,2,3,4,5,6,7] (i1) (R1 (fs hk (fs hk2 (fs hp2 (fs hnil tk0)))) ?_);try with_reducible exact tt
    refine A10 (fs hk (fs hk2 (fs hp2 (fs hnil tk0)))) ?_;try with_reducible exact tt
    refine CallS.gf 12 1 ⟨4,_⟩ (pre.map D.bool++[D.bool true]) [0,1,2,3,4,5,6,7] (i2) (R1 (fs hk (fs hk2 (fs hp2 (fs hnil tk0)))) ?_);try with_reducible exact tt
 ·by_cases h0:e=0
  ·subst h0
   rw [if_neg (by simp),if_pos rfl] at hR
   subst hR
   obtain ⟨hk16,hpl⟩:=hok rfl
   obtain ⟨rfl,rfl⟩:s2=0∧s3=false:=by simpa using hpl
   have hk0:(s1:Int)<16:=by omega
   have hk1:¬(s1:Int)<0:=by omega
   have hg:(arrW L)[s1]'(by simpa using hk16) = .int .i64 (getN (s1,0,false) L):=by
    have:=o_1by L hk16
    rw [List.getElem?_eq_getElem (by simpa using hk16)] at this
    exact Option.some.inj this
   have hs:=o_1bz L w hk16
   have ew:IntKind.i64.wrap ((getN (s1,0,false) L:Int)+(w:Int))=((getN (s1,0,false) L+w:Nat):Int):=by rw [w64 (by omega) (by omega)];omega
   refine CallS.g [8,5,6,7] (hr) (R1 (fs e1 (fs e2 (fs e3 (fs e4 (fs e5 (fs hk0 (fs hk1 hk16))))))) ?_);try with_reducible exact tt
   refine A10 (fs hk0 (fs hk1 (fs hk16 (fs hg ew)))) ?_;try with_reducible exact tt
   rw [Int.natCast_add] at hs
   rw [←List.map_set,hs]
   exact Subs.refl _
  ·rw [if_neg (by simp [he]),if_neg h0] at hR
   subst hR
   have he1:(e==8)=false:=by simpa using he
   have he2:(e==0)=false:=by simpa using h0
   have ew:IntKind.i64.wrap ((op:Int)+(w:Int))=((op+w:Nat):Int):=by rw [w64 (by omega) (by omega)];omega
   refine CallS.g [8,5,6,7] (hr) (R1 (fs e1 (fs e2 (fs e3 (fs e4 (fs e5 (fs he (fs he1 (fs h0 he2)))))))) ?_);try with_reducible exact tt
   refine AW.cond rfl (fun hh=>?_) (fun hh=>?_)
   ·simp [he] at hh
   repeat (first | refine AW.seq ?_ | refine AW.block ?_)
   refine AW.reg mix ?_
   (simp -implicitDefEqProofs [he,he1,h0,he2];try simp (disch:=omega) only [w64,wu64])
   try refine need.of (by first | omega | kernel_rfl) ?_
   refine AW.cond rfl (fun hh=>?_) (fun hh=>?_)
   ·simp [h0] at hh
   refine A10 ew ?_;try with_reducible exact tt
theorem o_1c1 {A:FuncId} {T6 T7 T8:TypeId} {c6 c7 c8:List D} {ask:List Bool→St×Int} (h:AskV A T6 T7 T8 c6 c7 c8 ask):∀(d:Nat) (pre:List Bool) (X:Wm×Nat),pre.length+d=12→X.2+2^d≤2^40→(∀s,getN s X.1+2^d≤2^40) →
  Eqn Tryz.prog o_8a [.d (.sl pre.length (pre.map .bool)),.p 0 0,.p 1 0,.p 2 0,.p 3 0,.p 4 0] (wvH A T6 T7 T8 c6 c7 c8 X) (.tup []) (wvH A T6 T7 T8 c6 c7 c8 (walkN ask d pre X))
 | 0,pre,X,h1,h2,h3=>o_1c0 h 0 (fun h=>absurd rfl h) pre X h1 h2 h3
 | d+1,pre,X,h1,h2,h3=>o_1c0 h (d+1) (fun _=>o_1c1 h d) pre X h1 h2 h3
end
section
open Go.RowKit
theorem o_1c2 {k a w:Nat} (hk4:k≠4) (n m:Nat) (cs:List Bool) {S U T:Int×Nat×Bool×Nat×Bool} (hS:S=addL (stOf cs k a) (2^w-1) n 0 false 0 false) (hU:U=addL (stOf cs k a) (2^w-1) m 0 false S.2.2.2.1 S.2.2.2.2) (hT:T=mergeL (agOf cs k a) (2^w-1) U.2.1 0 S.2.1 S.2.2.1 U.2.2.2.1 U.2.2.2.2) :
  askW k a w n m cs=if S.1=0 then (if U.1=0 then ((if T.1=0 then (T.2.1,0,false) else (S.2.1,0,false)),T.1) else ((0,0,false),U.1)) else ((0,0,false),S.1):=by
 subst hT;subst hU;subst hS
 unfold askW addRM mergeRM
 simp only [if_neg hk4]
theorem o_1c3 {k a w:Nat} (hk4:k≠4) (n:Nat) (cs:List Bool) {S:Int×Nat×Bool×Nat×Bool} (hS:S=addL (stOf cs k a) (2^w-1) n 0 false 0 false) :
  askV k a w n cs=((if S.1=0 then (S.2.1,0,false) else (0,0,false)),S.1):=by
 subst hS
 unfold askV addRM
 simp only [if_neg hk4]
theorem o_1c4 {st:StepT} {top:Nat}:∀(n x:Nat) (f:Bool) (p:Nat) (d:Bool),x≤top→(addL st top n x f p d).2.1≤top
 | 0,x,f,p,d,hx=>hx
 | n+1,x,f,p,d,hx=>by
  rw [addL]
  by_cases h1:x=top
  ·rw [if_pos h1];exact hx
  rw [if_neg h1]
  by_cases h2:(st x p d).2.1=0
  ·rw [if_pos h2]
   by_cases h3:f=true∧(if (st x p d).1 then x+1 else x)=top
   ·rw [if_pos h3];exact Nat.le_refl _
   ·rw [if_neg h3]
    exact o_1c4 n _ _ _ _ (by split<;>omega)
  ·rw [if_neg h2];exact hx
theorem o_1c5 {ag:AgT} {top:Nat}:∀(n r x:Nat) (f:Bool) (p:Nat) (d:Bool),x≤top→(mergeL ag top n r x f p d).2.1≤top
 | 0,r,x,f,p,d,hx=>hx
 | n+1,r,x,f,p,d,hx=>by
  rw [mergeL]
  by_cases h1:x=top
  ·rw [if_pos h1];exact o_1c5 n _ _ _ _ _ hx
  rw [if_neg h1]
  by_cases h2:(ag x r p d).2.1=0
  ·rw [if_pos h2]
   exact o_1c5 n _ _ _ _ _ (by split<;>omega)
  ·rw [if_neg h2];exact hx
theorem o_1c6 {k a w:Nat} (h:GoodC k a w) (cs:List Bool) (hn:cs.length≤4000000) {n p:Nat} {d:Bool} (hp:p≤cs.length) {S:Int×Nat×Bool×Nat×Bool} (hS:S=addL (stOf cs k a) (2^w-1) n 0 false p d):S.2.1≤2^w-1∧S.2.2.2.1≤cs.length∧(S.2.2.1=true→S.2.1=2^w-1):=by
 have h1:=o_y2 (top:=2^w-1) (o_zc h cs hn) n 0 false p d (Nat.zero_le _) hp
 have h2:=o_zd (st:=stOf cs k a) (top:=2^w-1) n 0 false p d (by simp)
 rw [←hS] at h1 h2
 exact ⟨h1.2.1,h1.2.2,h2⟩
set_option maxHeartbeats 4000000 in
theorem o_1c7 {k a w:Nat} (h:GoodS k a w) (n m:Nat) (hn:n≤100) (hm:m≤100):AskV o_74 26 3 3 [.int .i64 k,.int .i64 a,.int .i64 w] [.int .i64 n] [.int .i64 m] (askW k a w n m) where
 t6:=by decide
 t7:=by decide
 t8:=by decide
 ok:=fun cs he=>by
  have hk4:k≠4:=by have:=h.1;omega
  have h16:2^w≤16:=Nat.pow_le_pow_right (n:=2) (by omega) h.2.2
  obtain ⟨S,hS⟩:∃S,S=addL (stOf cs k a) (2^w-1) n 0 false 0 false:=⟨_,rfl⟩
  obtain ⟨U,hU⟩:∃U,U=addL (stOf cs k a) (2^w-1) m 0 false S.2.2.2.1 S.2.2.2.2:=⟨_,rfl⟩
  obtain ⟨T,hT⟩:∃T,T=mergeL (agOf cs k a) (2^w-1) U.2.1 0 S.2.1 S.2.2.1 U.2.2.2.1 U.2.2.2.2:=⟨_,rfl⟩
  have e:=o_1c2 hk4 n m cs hS hU hT
  have b1:S.2.1≤2^w-1:=by rw [hS];exact o_1c4 _ _ _ _ _ (Nat.zero_le _)
  have b2:T.2.1≤2^w-1:=by rw [hT];exact o_1c5 _ _ _ _ _ _ b1
  rw [e]
  by_cases h1:S.1=0
  ·rw [if_pos h1]
   by_cases h2:U.1=0
   ·rw [if_pos h2]
    by_cases h3:T.1=0
    ·simp only [if_pos h3,and_true];omega
    ·simp only [if_neg h3,and_true];omega
   ·rw [if_neg h2];exact ⟨Nat.zero_lt_succ _,rfl⟩
  ·rw [if_neg h1];exact ⟨Nat.zero_lt_succ _,rfl⟩
 run:=fun cs hcs=>by
  have hk4:k≠4:=by have:=h.1;omega
  have hg:=o_z6 h
  obtain ⟨S,hS⟩:∃S,S=addL (stOf cs k a) (2^w-1) n 0 false 0 false:=⟨_,rfl⟩
  obtain ⟨b1,b2,b3⟩:=o_1c6 hg cs (by omega) (Nat.zero_le _) hS
  obtain ⟨U,hU⟩:∃U,U=addL (stOf cs k a) (2^w-1) m 0 false S.2.2.2.1 S.2.2.2.2:=⟨_,rfl⟩
  obtain ⟨b4,b5,b6⟩:=o_1c6 hg cs (by omega) b2 hU
  obtain ⟨T,hT⟩:∃T,T=mergeL (agOf cs k a) (2^w-1) U.2.1 0 S.2.1 S.2.2.1 U.2.2.2.1 U.2.2.2.2:=⟨_,rfl⟩
  have e:=o_1c2 hk4 n m cs hS hU hT
  have a1:=o_za hg cs (by omega) 0 (Nat.zero_le _) false n (by omega) 0 false (Nat.zero_le _) S hS
  have a2:=o_za hg cs (by omega) 0 (Nat.zero_le _) false m (by omega) S.2.2.2.1 S.2.2.2.2 b2 U hU
  have a3:=o_zb hg cs (by omega) S.2.1 b1 S.2.2.1 U.2.1 b4 U.2.2.1 U.2.2.2.1 U.2.2.2.2 b5 T hT
  rw [e]
  clear hT hU hS e
  obtain ⟨s1,s2,s3,s4,s5⟩:=S
  obtain ⟨u1,u2,u3,u4,u5⟩:=U
  obtain ⟨t1,t2,t3,t4,t5⟩:=T
  simp only at a1 a2 a3 b1 b2 b3 b4 b5 b6 ⊢
  have e0:((0:Nat):Int)=0:=rfl
  by_cases h1:s1=0
  ·subst h1
   simp only [if_true] at a1 ⊢
   by_cases h2:u1=0
   ·subst h2
    simp only [if_true] at a2 ⊢
    obtain ⟨R,V,hR1,hR2,hR3⟩:∃(R:Nat) (V:Bool),(if t1=0 then t2 else s2)=R∧(if t1=0 then t3 || u3 else s3)=V∧(if t1=0 then ((t2,0,false):St) else (s2,0,false))=(R,0,false):=by
     by_cases h3:t1=0
     ·simp only [if_pos h3];exact ⟨_,_,rfl,rfl,rfl⟩
     ·simp only [if_neg h3];exact ⟨_,_,rfl,rfl,rfl⟩
    rw [hR1,hR2] at a3
    rw [hR3]
    refine ⟨t4,t5,?_⟩
    refine Eqn.gen [0,1,2,3] o_76 (by simp) (by simp) (by rfl) (by decide) (by simp [tapeO]) (by simp [tapeO]) ?_
    refine cc (c':=?z317) ?_ ?_
    case refine_1=>cbv<;>exact rfl
    try simp only [parD,e0] at a1 a2 a3 ⊢
    refine A00 ?_;try with_reducible exact tt
    refine CallS.o1 0 (a1) (R0 ?_);try with_reducible exact tt
    refine A00 ?_;try with_reducible exact tt
    refine CallS.o1 0 (a2) (R0 ?_);try with_reducible exact tt
    refine A00 ?_;try with_reducible exact tt
    refine CallS.o1 0 (a3) (R0 ?_);try with_reducible exact tt
   ·simp only [if_neg h2] at a2 ⊢
    refine ⟨u4,u5,?_⟩
    refine Eqn.gen [0,1,2,3] o_76 (by simp) (by simp) (by rfl) (by decide) (by simp [tapeO]) (by simp [tapeO]) ?_
    refine cc (c':=?z318) ?_ ?_
    case refine_1=>cbv<;>exact rfl
    try simp only [parD,e0] at a1 a2 ⊢
    refine A00 ?_;try with_reducible exact tt
    refine CallS.o1 0 (a1) (R0 ?_);try with_reducible exact tt
    refine A00 ?_;try with_reducible exact tt
    refine CallS.o1 0 (a2) (R1 h2 ?_);try with_reducible exact tt
    refine A10 h2 ?_;try with_reducible exact tt
  ·simp only [if_neg h1] at a1 ⊢
   refine ⟨s4,s5,?_⟩
   refine Eqn.gen [0,1,2,3] o_76 (by simp) (by simp) (by rfl) (by decide) (by simp [tapeO]) (by simp [tapeO]) ?_
   refine cc (c':=?z319) ?_ ?_
   case refine_1=>cbv<;>exact rfl
   try simp only [parD,e0] at a1 ⊢
   refine A00 ?_;try with_reducible exact tt
   refine CallS.o1 0 (a1) (R1 h1 ?_);try with_reducible exact tt
   refine A10 h1 ?_;try with_reducible exact tt
theorem o_1c8 {k a w:Nat} (h:GoodS k a w) (n m:Nat) (hn:n≤100) (hm:m≤100):AskV o_7d 26 3 3 [.int .i64 k,.int .i64 a,.int .i64 w] [.int .i64 n] [.int .i64 m] (askV k a w (n+m)) where
 t6:=by decide
 t7:=by decide
 t8:=by decide
 ok:=fun cs he=>by
  have hk4:k≠4:=by have:=h.1;omega
  have h16:2^w≤16:=Nat.pow_le_pow_right (n:=2) (by omega) h.2.2
  obtain ⟨S,hS⟩:∃S,S=addL (stOf cs k a) (2^w-1) (n+m) 0 false 0 false:=⟨_,rfl⟩
  have e:=o_1c3 hk4 (n+m) cs hS
  rw [e]
  have b1:S.2.1≤2^w-1:=by rw [hS];exact o_1c4 _ _ _ _ _ (Nat.zero_le _)
  by_cases h1:S.1=0
  ·simp only [if_pos h1,and_true];omega
  ·rw [if_neg h1];exact ⟨Nat.zero_lt_succ _,rfl⟩
 run:=fun cs hcs=>by
  have hk4:k≠4:=by have:=h.1;omega
  have hg:=o_z6 h
  obtain ⟨q,hq⟩:∃q,q=n+m:=⟨_,rfl⟩
  have ew:IntKind.i64.wrap ((n:Int)+(m:Int))=(q:Int):=by rw [w64 (by omega) (by omega)];omega
  rw [←hq]
  obtain ⟨S,hS⟩:∃S,S=addL (stOf cs k a) (2^w-1) q 0 false 0 false:=⟨_,rfl⟩
  have e:=o_1c3 hk4 q cs hS
  have a1:=o_za hg cs (by omega) 0 (Nat.zero_le _) false q (by omega) 0 false (Nat.zero_le _) S hS
  rw [e]
  clear hS e hq
  obtain ⟨s1,s2,s3,s4,s5⟩:=S
  simp only at a1 ⊢
  have e0:((0:Nat):Int)=0:=rfl
  obtain ⟨R,V,hR1,hR2,hR3⟩:∃(R:Nat) (V:Bool),(if s1=0 then s2 else 0)=R∧(if s1=0 then s3 else false)=V∧(if s1=0 then ((s2,0,false):St) else (0,0,false))=(R,0,false):=by
   by_cases h3:s1=0
   ·simp only [if_pos h3];exact ⟨_,_,rfl,rfl,rfl⟩
   ·simp only [if_neg h3];exact ⟨_,_,rfl,rfl,rfl⟩
  rw [hR1,hR2] at a1
  rw [hR3]
  refine ⟨s4,s5,?_⟩
  refine Eqn.gen [0,1,2,3] o_7f (by simp) (by simp) (by rfl) (by decide) (by simp [tapeO]) (by simp [tapeO]) ?_
  refine cc (c':=?z320) ?_ ?_
  case refine_1=>cbv<;>exact rfl
  try simp only [parD,e0] at a1 ⊢
  refine A10 ew ?_;try with_reducible exact tt
  refine CallS.o1 0 (a1) (R0 ?_);try with_reducible exact tt
end
section
open Go.RowKit
def opn (k a b n m:Nat):Bool:=(walkN (askW k a b n m) 12 [] ([],0)).2==0&&(walkN (askV k a b (n+m)) 12 [] ([],0)).2==0
theorem o_1c9:((List.range 2).all fun k=>(List.range 2).all fun a=>(List.range 3).all fun b=>(List.range 4).all fun n=>(List.range 4).all fun m=>decide (4<n+m) || opn (k+2) (a+k) (b+1) n m)=true:=by decide +kernel
theorem o_1ca {k a w n m:Nat} (h:GoodS k a w) (hk:k≠1) (hw:w≤3) (hn:n≤3) (hm:m≤3) (h4:¬4<n+m):(walkN (askW k a w n m) 12 [] ([],0)).2=0∧(walkN (askV k a w (n+m)) 12 [] ([],0)).2=0:=by
 have h0:=o_1c9
 simp only [List.all_eq_true,List.mem_range,Bool.or_eq_true,decide_eq_true_eq] at h0
 obtain ⟨hh,w1,-⟩:=h
 have h1:=h0 (k-2) (by omega) (a-(k-2)) (by omega) (w-1) (by omega) n (by omega) m (by omega)
 rw [show k-2+2=k by omega,show a-(k-2)+(k-2)=a by omega,show w-1+1=w by omega] at h1
 have h2:=h1.resolve_left h4
 unfold opn at h2
 simpa using h2
theorem o_1cb {k a w:Nat} (h:GoodS k a w) {n m:Nat} (hn:n≤3) (hm:m≤3) (o1:(walkN (askW k a w n m) 12 [] ([],0)).2=0) (o2:(walkN (askV k a w (n+m)) 12 [] ([],0)).2=0) (x:Nat) :
  getN (x,0,false) (walkN (askW k a w n m) 12 [] ([],0)).1=getN (x,0,false) (walkN (askV k a w (n+m)) 12 [] ([],0)).1∧(getN (x,0,false) (walkN (askV k a w (n+m)) 12 [] ([],0)).1:Rat)=4096*exQ (plQ (indP x)) (ofQ (stepQ (topC w) (chP k a)) (0,0,false) (n+m)):=by
 have hk4:k≠4:=by have:=h.1;omega
 have hsr:SmallR k a w:=.inr ⟨hk4,h⟩
 have e0:((2^12:Nat):Rat)=4096:=rfl
 have hi:(fun r:St=>if plS r=(x,0,false) then (1:Rat) else 0)=plQ (indP x):=funext fun r=>o_1bj x r
 have w1:=o_1bi (u:=plS) _ (keyW hsr n m) 12 o1 (x,0,false)
 have w2:=o_1bi (u:=plS) _ (keyV hsr (n+m)) 12 o2 (x,0,false)
 have es:∀i,smQ k a w (0,0,false) i=ofQ (stepQ (topC w) (chP k a)) (0,0,false) i:=fun i=>by unfold smQ dstQ;rw [if_neg hk4]
 rw [e0,hi,rgT_E hsr n m hn hm,mgR_c hk4,es,es] at w1
 rw [e0,hi,rgA_E hsr (s:=(0,0,false)) (well0 k a w),es] at w2
 have hp:=o_16k h n m (indP x)
 rw [show mrgdQ (topC w) k a=mrgG (mgQ (topC w) k a) from rfl] at hp
 rw [hp,←w2] at w1
 exact ⟨Rat.natCast_inj.1 w1,w2⟩
theorem o_1cc {k a w:Nat} (h:GoodS k a w) {n m x:Nat} (hx:x≤topC w) {g:Nat} (hg:(g:Rat)=4096*exQ (plQ (indP x)) (ofQ (stepQ (topC w) (chP k a)) (0,0,false) (n+m))):vT3 ((sprT (topC w) k a (n+m)).getD x zero3)=mkRat g 4096:=by
 obtain ⟨c0,c1⟩:=o_15k h
 rw [o_1bu h (n+m) x hx,←o_1bm (fun i p hp=>(ok_of c0 c1 (okz _) i p hp).1.1) (n+m) x hx,Rat.mkRat_eq_div]
 have e1:(((g:Nat):Int):Rat)=(g:Rat):=rfl
 have e2:((4096:Nat):Rat)=4096:=rfl
 rw [e1,e2,hg]
 grind
theorem o_1cd:arrW []=[.int .i64 0,.int .i64 0,.int .i64 0,.int .i64 0,.int .i64 0,.int .i64 0,.int .i64 0,.int .i64 0,.int .i64 0,.int .i64 0,.int .i64 0,.int .i64 0,.int .i64 0,.int .i64 0,.int .i64 0,.int .i64 0]:=rfl
theorem o_1ce (X:Wm) {k:Nat} (hk:k<16):(arrW X)[k]'(by simpa using hk) = .int .i64 (getN (k,0,false) X):=by
 have:=o_1by X hk
 rw [List.getElem?_eq_getElem (by simpa using hk)] at this
 exact Option.some.inj this
set_option maxHeartbeats 4000000 in
theorem o_1cf {A:FuncId} {T6 T7 T8:TypeId} {c6 c7 c8:List D} {ask:List Bool→St×Int} (h:AskV A T6 T7 T8 c6 c7 c8 ask):Eqn Tryz.prog o_71 [.d (.int .i64 12),.fn (.func A) [.p 0 0,.p 1 0,.p 2 0]] [⟨T6,c6.map .d⟩,⟨T7,c7.map .d⟩,⟨T8,c8.map .d⟩] (.tup [.d (.agg (arrW (walkN ask 12 [] ([],0)).1)),.d (.int .i64 (walkN ask 12 [] ([],0)).2)]) [⟨T6,c6.map .d⟩,⟨T7,c7.map .d⟩,⟨T8,c8.map .d⟩]:=by
 have g6:=h.t6
 have g7:=h.t7
 have g8:=h.t8
 have hw:=o_1c1 h 12 [] ([],0) (by simp) (by decide) (fun s=>by simp [getN])
 refine Eqn.gen [0,1,2] o_73 (by simp) (by simp) (by rfl) (by decide) (by simp) (by simp [h.t6,h.t7,h.t8]) ?_
 refine cc (c':=?z321) ?_ ?_
 case refine_1=>cbv<;>exact rfl
 try simp only [wvH,List.length_nil,List.map_nil,o_1cd] at hw ⊢
 generalize walkN ask 12 [] ([],0)=Y at *
 have hl:=o_1bx Y.1
 have htk:(arrW Y.1).take 16=arrW Y.1:=List.take_of_length_le (by omega)
 have hsm:setMany (List.map V.d (arrW Y.1)) 0 (List.map V.d (arrW Y.1))=List.map V.d (arrW Y.1):=by
  rw [o_l _ _ _ (by simp)];simp
 have htk2:List.take 16 (List.map V.d (arrW Y.1))=List.map V.d (arrW Y.1):=List.take_of_length_le (by simp)
 refine A00 ?_;try with_reducible exact tt
 refine CallS.gen [4,3,7,5,6,0,1,2] hw (by decide) (by first | ((repeat (first | exact o_5z | refine o_60 rfl rfl ?_));done) | (simp;done)) (by simp) (Subs.cons Sub1.nil (Subs.refl _)) (R1 (fs hl (fs htk2 hsm)) ?_);try with_reducible exact tt
set_option maxHeartbeats 8000000 in
theorem o_1cg (k a b n m:Int):Eqn Tryz.prog o_6p [.d (parD k a b),.d (.int .i64 n),.d (.int .i64 m)] [] (.d (.bool true)) []:=by
 refine Eqn.pure o_6r Plain.ok ?_
 obtain ⟨K,A,W,hG0,hW3,hsm⟩:=o_1bw k a b
 obtain ⟨i,hi,hi1,-⟩:=o_yf K 1 (by omega)
 replace hi:bits BinOp.and IntKind.i64 K 1=i:=hi
 obtain ⟨A',ha,ha1,-⟩:=o_yf A 1 (by omega)
 replace ha:bits BinOp.and IntKind.i64 A 1=A':=ha
 obtain ⟨N,hN,hN3,-⟩:=o_yf n 3 (by omega)
 replace hN:bits BinOp.and IntKind.i64 n 3=N:=hN
 obtain ⟨M,hM,hM3,-⟩:=o_yf m 3 (by omega)
 replace hM:bits BinOp.and IntKind.i64 m 3=M:=hM
 obtain ⟨k',hk'⟩:∃k',k'=2+i:=⟨_,rfl⟩
 obtain ⟨a',ha'⟩:∃a',a'=if i=0 then A' else 1+A':=⟨_,rfl⟩
 have hG:GoodS k' a' W:=by
  refine ⟨?_,hG0.2⟩
  by_cases h0:i=0
  ·rw [if_pos h0] at ha';omega
  ·rw [if_neg h0] at ha';omega
 have ew1:IntKind.i64.wrap (2+(i:Int))=(k':Int):=by rw [w64 (by omega) (by omega)];omega
 have hown:=o_yg k' a' W
 have hk1:k'≠1:=by omega
 have hw1:=o_1cf (o_1c7 hG N M (by omega) (by omega))
 have hw2:=o_1cf (o_1c8 hG N M (by omega) (by omega))
 have hsp:=o_1bv hG (N+M) (by omega)
 have ho4:=o_1ca hG hk1 hW3 hN3 hM3
 have hle1:=o_18z (ask:=askW k' a' W N M) 12 [] ([],0)
 have hle2:=o_18z (ask:=askV k' a' W (N+M)) 12 [] ([],0)
 have hqq:=o_1cb hG hN3 hM3
 generalize walkN (askW k' a' W N M) 12 [] ([],0)=X1 at *
 generalize walkN (askV k' a' W (N+M)) 12 [] ([],0)=X2 at *
 obtain ⟨X1,op1⟩:=X1
 obtain ⟨X2,op2⟩:=X2
 obtain ⟨q,hq⟩:∃q,q=N+M:=⟨_,rfl⟩
 have h12:(2:Nat)^12=4096:=rfl
 rw [h12] at hle1 hle2
 simp only [Nat.zero_add] at hle1 hle2
 obtain ⟨hl1,hg1⟩:=hle1
 obtain ⟨hl2,hg2⟩:=hle2
 have ewq:IntKind.i64.wrap ((N:Int)+(M:Int))=(q:Int):=by rw [w64 (by omega) (by omega)];omega
 have ewo:IntKind.i64.wrap ((op1:Int)+(op2:Int))=((op1+op2:Nat):Int):=by rw [w64 (by omega) (by omega)];omega
 have hbT:=o_1bt (k:=k') (a:=a') hG (N+M)
 have hvT:=fun (x g:Nat) (hx:x≤topC W) hg=>o_1cc (x:=x) (g:=g) hG (n:=N) (m:=M) hx hg
 have htl:=o_1bp (topC W) k' a' (N+M)
 have hzs:∀X:Wm,setMany [V.d (D.int .i64 0),V.d (D.int .i64 0),V.d (D.int .i64 0),V.d (D.int .i64 0),V.d (D.int .i64 0),V.d (D.int .i64 0),V.d (D.int .i64 0),V.d (D.int .i64 0),V.d (D.int .i64 0),V.d (D.int .i64 0),V.d (D.int .i64 0),V.d (D.int .i64 0),V.d (D.int .i64 0),V.d (D.int .i64 0),V.d (D.int .i64 0),V.d (D.int .i64 0)] 0 (List.map V.d (arrW X))=List.map V.d (arrW X):=fun X=>by
  rw [o_l _ _ _ (by simp)]
  simp
 have hs1:=hzs X1
 have hs2:=hzs X2
 rw [←hq] at hsp ho4 hqq hbT hvT htl
 simp only at hw1 hw2 ho4 hqq hg1 hg2
 have eqq:(q:Int)=(N:Int)+(M:Int):=by omega
 rw [eqq] at hsp
 refine cc (c':=?z322) ?_ ?_
 case refine_1=>cbv<;>exact rfl
 try simp only [parD] at hsm hown hw1 hw2 hsp ⊢
 refine A01 o_z4 ?_;try with_reducible exact tt
 refine CallS.pu (hsm) (R1 (fs hi ew1) ?_);try with_reducible exact tt
 refine A10 (fs hi ew1) ?_;try with_reducible exact tt
 refine AW.meet (setS (List.replicate 108 .junk) [(3,.p 0 0),(4,.p 1 0),(5,.p 2 0)]) [some ⟨23,[.d (.int .i64 k'),.d (.int .i64 a'),.d (.int .i64 W)]⟩,some ⟨3,[.d (.int .i64 n)]⟩,some ⟨3,[.d (.int .i64 m)]⟩] (Nat.zero_le _) ?_ ?_
 ·by_cases h0:i=0
  ·subst h0
   rw [if_pos rfl] at ha'
   subst ha'
   have hk2:(k':Int)=2:=by omega
   have hk3:k'=2:=by omega
   refine A10 (fs hk2 (fs hk3 ha)) ?_;try with_reducible exact tt
  ·rw [if_neg h0] at ha'
   have hk2:¬(k':Int)=2:=by omega
   have hk3:¬k'=2:=by omega
   have ew2:IntKind.i64.wrap (1+(A':Int))=(a':Int):=by rw [w64 (by omega) (by omega)];omega
   refine A10 (fs hk2 (fs hk3 (fs ha ew2))) ?_;try with_reducible exact tt
 refine A10 (fs hN hM) ?_;try with_reducible exact tt
 refine CallS.pu (hown) (R0 ?_);try with_reducible exact tt
 refine A00 ?_;try with_reducible exact tt
 refine CallS.g [3,1,2] (hw1) (R1 hs1 ?_);try with_reducible exact tt
 refine A10 hs1 ?_;try with_reducible exact tt
 refine CallS.g [3,1,2] (hw2) (R1 hs2 ?_);try with_reducible exact tt
 refine A10 hs2 ?_;try with_reducible exact tt
 by_cases c1:op1=0
 ·by_cases c2:op2=0
  ·have hqy:=hqq c1 c2
   clear hqq ho4
   subst c1
   subst c2
   simp only [if_true]
   refine A00 ?_;try with_reducible exact tt
   refine CallS.pu (hsp) (R0 ?_);try with_reducible exact tt
   refine A00 ?_;try with_reducible exact tt
   have hfl:=o_11s (n:=3) (f:=qc) (fun _=>rfl) (sprT (topC W) k' a' q)
   rw [htl] at hfl
   have hgA:∀i,i<topC W+1→(((sprT (topC W) k' a' q).flatMap qc).drop (i*3)).take 3=qc ((sprT (topC W) k' a' q).getD i zero3):=fun i hi=>by
    rw [o_11u (n:=3) (f:=qc) (fun _=>rfl) _ i (by rw [htl];exact hi),List.getD_eq_getElem?_getD,List.getElem?_eq_getElem (by rw [htl];exact hi)]
    rfl
   generalize hTP:topC W=TP at *
   generalize hAT:sprT TP k' a' q=AT at *
   generalize hRR:AT.flatMap qc=RR at *
   refine AW.loopG (α:=Nat) (fun i=>setS (List.replicate 108 .junk) [(8,.d (.int .i64 12)),(9,.p 4 0),(11,.p 5 0),(13,.d (.sl (TP+1) RR)),(77,.d (.int .i64 (i:Nat)))]) (fun i=>[none,none,none,none,some ⟨28,(arrW X1).map .d⟩,some ⟨28,(arrW X2).map .d⟩]) (fun i=>i≤16) (fun i=>16-i) 0 ?_ (Nat.zero_le _) ?_ ?_ ?_
   ·intro i hi;simp
   ·simp
   ·simp
   rintro i hi
   simp
   by_cases hi2:i<16
   ·have hi3:(i:Int)<16:=by omega
    have ewi:IntKind.i64.wrap ((i:Int)+1)=((i+1:Nat):Int):=by rw [w64 (by omega) (by omega)];omega
    have hi4:i≤15:=by omega
    obtain ⟨g,hg⟩:∃g,g=getN (i,0,false) X2:=⟨_,rfl⟩
    obtain ⟨q1,q2⟩:=hqy i
    have hb:=hg2 (i,0,false)
    have a1:=o_1ce X1 hi2
    have a2:=o_1ce X2 hi2
    rw [q1] at a1
    rw [←hg] at a1 a2 q2 hb
    have hb:g≤4096:=by simpa [getN] using hb
    by_cases hT:i<TP+1
    ·have hT3:(i:Int)<(TP:Int)+1:=by omega
     have hI:=is7T (hvT i g (by omega) q2) (RS.mk' (by omega) (by rw [Int.natAbs_natCast];exact Nat.le_trans (o_oq (n:=2^62) (by omega)) (by decide)) (by decide)) (Nat.le_trans (eB_le q (by omega)) (by decide)) (hbT i)
     have hmk:=o_vl g 4096 (by omega) (by omega) (by omega)
     have hgi:=hgA i hT
     obtain ⟨u1,u2,u3,hU,-⟩:=qc3 (AT.getD i zero3)
     rw [hU] at hgi hI
     rw [rD_rc] at hmk hI
     obtain ⟨x1,x2,x3,hx⟩:∃u v z,rcD (mkRat (g:Int) 4096)=[u,v,z]:=⟨_,_,_,rfl⟩
     rw [hx] at hmk hI
     have c6:i*3+3≤(TP+1)*3:=by omega
     have c7:i*3<(TP+1)*3:=by omega
     refine A12 (fs hi2 (fs hi3 (fs hi4 (fs a1 (fs a2 (fs hT (fs hT3 (fs hgi (fs hfl (fs c6 (fs c7 ewi))))))))))) hmk hI ?_;try with_reducible exact tt
     refine ⟨i+1,4,4,⟨by omega,by omega⟩,by omega,by omega,?_,?_⟩
     ·simp [swT,swH,sw,Ob.sw,V.ren,V.rens]
     ·simp [swT,swH,sw,Ob.sw,V.ren,V.rens]
    ·have hT3:¬(i:Int)<(TP:Int)+1:=by omega
     refine A10 (fs hi2 (fs hi3 (fs hi4 (fs a1 (fs a2 (fs hT (fs hT3 ewi))))))) ?_;try with_reducible exact tt
     refine ⟨i+1,4,4,⟨by omega,by omega⟩,by omega,by omega,?_,?_⟩
     ·simp [swT,swH,sw,Ob.sw,V.ren,V.rens]
     ·simp [swT,swH,sw,Ob.sw,V.ren,V.rens]
   ·have h2:i=16:=by omega
    subst h2
    refine A00 ?_;try with_reducible exact tt
  ·have h4:4<q:=Nat.not_le.1 fun hn=>c2 (ho4 (by omega)).2
   have h4':(4:Int)<(N:Int)+(M:Int):=by omega
   have c3:¬(op2:Int)=0:=by omega
   have c4:0<op2:=by omega
   have c6:(0:Int)<(op2:Int):=by omega
   have c5:((op2:Int)==0)=false:=by rw [beq_eq_false_iff_ne];omega
   subst c1
   simp only [if_true]
   refine A10 (fs c2 (fs c3 (fs c4 (fs c5 (fs c6 (fs h4 h4')))))) ?_;try with_reducible exact tt
   simp only [if_pos c6]
   refine A10 (fs h4 h4') ?_;try with_reducible exact tt
 ·have h4:4<q:=Nat.not_le.1 fun hn=>c1 (ho4 (by omega)).1
  have h4':(4:Int)<(N:Int)+(M:Int):=by omega
  have c6:(0:Int)<(op1:Int)+(op2:Int):=by omega
  simp only [if_neg c1]
  refine A10 (fs c1 (fs h4 (fs h4' c6))) ?_;try with_reducible exact tt
  simp only [if_pos c6]
  refine A10 (fs h4 h4') ?_;try with_reducible exact tt
end
section
open Go.RowKit

theorem cw_walk {W:World} (ht:Tabs (memW W)) {k a b n m:Int}:Calls Tryz.prog o_6p #[.agg #[.int .i64 k,.int .i64 a,.int .i64 b],.int .i64 n,.int .i64 m] W (fun e W'=>e = .returned (.bool true)∧Same W W') :=
 o_128 o_6r (o_1cg k a b n m) (V.reps_cons.2 ⟨o_129 (by simp [Value.oneCell']) (by simp [D.reps_cons,D.rep_int]),V.reps_cons.2 ⟨V.rep_int.2 rfl,V.reps_cons.2 ⟨V.rep_int.2 rfl,V.reps_nil.2 rfl⟩⟩⟩) ht
end
end Go.Proofs.YtabnkmpkcfjkmaaGreatDoor.Am
