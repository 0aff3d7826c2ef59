/- Parts of the proof: PtB, PtC, PtD, PtE, PtF, TailI, FalA, TailJ, PmfEb, TailK, TailM2, TailT, TailO, FalB, PtG, FalC, TmnA, TmnL. -/
import Derived.Test.YtjbcbbfhcbnncaaGreatDoorPe
set_option linter.unusedVariables false
set_option linter.unusedSimpArgs false
set_option maxRecDepth 100000
namespace Go.Proofs.YtjbcbbfhcbnncaaGreatDoor.Am
section
open Go.RowKit
structure NextJ (next:St→Sp) (G J:Nat) (s:St):Prop where
 uq:Uq (next s)
 nz:nzQ (next s)≠[]
 len:(next s).length≤J
 j6:J≤1000000
 gr:∀p∈next s,Gr G 1 p.2
set_option maxHeartbeats 4000000 in
theorem o_13f {f:FuncId} {next:St→Sp} {T1:TypeId} {x0 x1 x2:D} (ho1:T1<1000000) (P:St→Prop) (l:Sp) (G D B L J CP:Nat) (hu:Uq l) (hok:∀p∈nzQ l,P p.1) (hnz:nzQ l≠[]) (h12:(nzQ l).length≤L) (hl:l.length≤1000000) (hD:0<D) (hB:1≤B) (hgl:∀p∈l,Gr D B p.2) (hG:0<G) (hf:∀s:St,P s→NextJ next G J s∧Eqn Tryz.prog f [.d (.agg (stD s)),.p 0 0] [⟨T1,[.d x0,.d x1,.d x2]⟩] (.mp 1) [⟨T1,[.d x0,.d x1,.d x2]⟩,spO (next s)]) (hsz:size (CP*(D*G))≤100000) (hCP:L*J*B≤CP) (hJ:1≤J) :
  Eqn Tryz.prog o_8r [.mp 0,.fn (.func f) [.p 1 0]] [spO l,⟨T1,[.d x0,.d x1,.d x2]⟩] (.mp 2) [spO l,⟨T1,[.d x0,.d x1,.d x2]⟩,spO (timesQ next l)]:=by
 refine Eqn.gen [0,1,2] o_8t (by simp) (by simp) (by rfl) (by decide) (by simp) (by simp [spO,ho1]) ?_
 obtain ⟨A,hA⟩:∃A,A=atQ l:=⟨_,rfl⟩
 have hAl:A.length≤L:=by rw [hA,(o_w4 l).length_eq];exact h12
 have hAm6:A.length≤1000000:=Nat.le_trans (hA▸o_yt l) hl
 have hA0:1≤A.length:=by
  rw [hA,(o_w4 l).length_eq]
  rcases Nat.eq_zero_or_pos (nzQ l).length with e | e
  ·exact absurd (List.eq_nil_of_length_eq_zero e) hnz
  ·exact e
 have hAm:∀p∈A,p∈l:=fun p hp=>(List.mem_filter.1 ((o_w4 l).mem_iff.1 (hA▸hp))).1
 have hAz:∀p∈A,p∈nzQ l:=fun p hp=>(o_w4 l).mem_iff.1 (hA▸hp)
 have hDG:0<D*G:=Nat.mul_pos hD hG
 have hBC:B≤CP:=by
  refine Nat.le_trans ?_ hCP
  have:1≤L*J:=Nat.mul_pos (by omega) hJ
  exact Nat.le_mul_of_pos_left B this
 have hBD:size (B*D)≤100000:=by
  refine Nat.le_trans (o_l1 ?_) hsz
  exact Nat.mul_le_mul hBC (Nat.le_mul_of_pos_right D hG)
 have hat:=o_yg l hu hnz hl (fun p hp=>(hgl p hp).rs hD hB hBD)
 have hGs:size (1*G)≤100000:=by
  refine Nat.le_trans (o_l1 ?_) hsz
  rw [Nat.one_mul]
  exact Nat.le_trans (Nat.le_mul_of_pos_left G hD) (Nat.le_mul_of_pos_left _ (by omega))
 have hgn:∀s:St,P s→∀p∈next s,Gr G 1 p.2:=fun s hs=>(hf s hs).1.gr
 have hnl:∀s:St,P s→(atQ (next s)).length≤J:=fun s hs=>Nat.le_trans (o_yt _) (hf s hs).1.len
 have hnl6:∀s:St,P s→(atQ (next s)).length≤1000000:=fun s hs=>Nat.le_trans (hnl s hs) (hf s hs).1.j6
 have hout:=o_yp (D:=D) (E:=G) (B:=B) (J:=J) (next:=next) (A:=A) (fun p hp=>hgl p (hAm p hp)) (fun p hp=>⟨hgn p.1 (hok p (hAz p hp)),hnl p.1 (hok p (hAz p hp))⟩)
 have hon:=o_yl next A
 have hoa:outQ next A A.length=timesQ next l:=by rw [hA];exact o_ym next l
 have hADl:=o_vm rcD (fun _=>rfl) A
 have hget:=o_yv A
 rw [←hoa]
 rw [←hA] at hat
 have hcl:∀s:St,P s→Eqn Tryz.prog f [.d (.agg (stD s)),.p 0 0] [⟨T1,[.d x0,.d x1,.d x2]⟩] (.mp 1) [⟨T1,[.d x0,.d x1,.d x2]⟩,spO (next s)]∧Eqn Tryz.prog o_8f [.mp 0] [spO (next s)] (.d (.sl (atQ (next s)).length (spD rcD (atQ (next s))))) [spO (next s)]:=fun s hs=>by
  obtain ⟨hn,hh⟩:=hf s hs
  exact ⟨hh,o_yg _ hn.uq hn.nz (Nat.le_trans hn.len hn.j6) fun p hp=>(hgn s hs p hp).rs hG (Nat.le_refl _) hGs⟩
 have hAok:∀p∈A,P p.1:=fun p hp=>hok p (hAz p hp)
 clear hA hoa hnz hf
 refine cc (c':=?z300) ?_ ?_
 case refine_1=>cbv<;>exact rfl
 try simp only [spO] at hat hcl ⊢
 generalize hLl:spD rcD l=LL at *
 refine A00 ?_;try with_reducible exact tt
 refine CallS.g [0] (hat) (R0 ?_);try with_reducible exact tt
 refine AW.loopG (α:=Nat) (fun i=>setS (List.replicate 40 .junk) [(1,.fn (.func f) [.p 1 0]),(5,.mp 2),(12,.d (.sl A.length (spD rcD A))),(13,.d (.int .i64 A.length)),(14,.d (.int .i64 (i:Nat)))]) (fun i=>[some ⟨1000391,LL.map .d⟩,some ⟨T1,[.d x0,.d x1,.d x2]⟩,some ⟨1000391,(spD rcD (outQ next A i)).map .d⟩]) (fun i=>i≤A.length) (fun i=>A.length-i) 0 ?_ (Nat.zero_le _) ?_ ?_ ?_
 ·intro i hi;simp
 ·simp
 ·simp [outQ,spD]
 rintro i hi
 simp
 by_cases hi2:i<A.length
 ·have hi3:(i:Int)<A.length:=by omega
  obtain ⟨s1,s2,s3,q,N1,N2,N3,hp,hN,hg⟩:=hget i hi2
  have hsk:=hAok _ (List.getElem_mem hi2)
  rw [hp] at hsk
  obtain ⟨hof,han⟩:=hcl (s1,s2,s3) hsk
  have hgq:Gr D B q:=by have:=hgl _ (hAm _ (List.getElem_mem hi2));rw [hp] at this;exact this
  have hon1:=hon i hi2
  rw [hp] at hon1
  simp only at hon1
  have hgo:=hout i hi
  have hn2:=hnl (s1,s2,s3) hsk
  have hgn2:=hgn (s1,s2,s3) hsk
  have hJ6:=(hnl6 (s1,s2,s3) hsk)
  obtain ⟨C,hC⟩:∃C,C=atQ (next (s1,s2,s3)):=⟨_,rfl⟩
  have hCm:∀p∈C,Gr G 1 p.2:=fun p hp=>hgn2 p (List.mem_filter.1 ((o_w4 _).mem_iff.1 (hC▸hp))).1
  rw [←hC] at hon1 han hn2 hJ6
  have hCl:=o_vm rcD (fun _=>rfl) C
  have hgetC:=o_yv C
  have ewi:IntKind.i64.wrap ((i:Int)+1)=((i+1:Nat):Int):=by rw [w64 (by omega) (by omega)];omega
  simp only [stD] at hof han
  generalize hNL:spD rcD (next (s1,s2,s3))=NL at *
  have hb6:i*6+6≤A.length*6:=by omega
  have hb7:i*6<A.length*6:=by omega
  refine A10 (fs hi2 (fs hi3 (fs hg (fs hADl (fs hb6 hb7))))) ?_;try with_reducible exact tt
  refine CallS.g [1] (hof) (R0 ?_);try with_reducible exact tt
  refine CallS.g [4] (han) (R0 ?_);try with_reducible exact tt
  refine AW.loopG (α:=Nat) (fun j=>setS (List.replicate 40 .junk) [(1,.fn (.func f) [.p 1 0]),(5,.mp 2),(7,.p 3 0),(12,.d (.sl A.length (spD rcD A))),(13,.d (.int .i64 A.length)),(14,.d (.int .i64 (i:Nat))),(22,.d (.sl C.length (spD rcD C))),(23,.d (.int .i64 C.length)),(24,.d (.int .i64 (j:Nat)))]) (fun j=>[some ⟨1000391,LL.map .d⟩,some ⟨T1,[.d x0,.d x1,.d x2]⟩,some ⟨1000391,(spD rcD (innQ q (outQ next A i) (C.take j))).map .d⟩,some ⟨75,[.d (.int .i64 s1),.d (.int .i64 s2),.d (.bool s3),.d N1,.d N2,.d N3]⟩]) (fun j=>j≤C.length) (fun j=>C.length-j) 0 ?_ (Nat.zero_le _) ?_ ?_ ?_
  ·intro j hj;simp
  ·simp
  ·simp [innQ]
  rintro j hj
  simp
  by_cases hj2:j<C.length
  ·have hj3:(j:Int)<C.length:=by omega
   obtain ⟨t1,t2,t3,r,M1,M2,M3,hpc,hM,hgc⟩:=hgetC j hj2
   have hinn:=o_yk q (outQ next A i) C j hj2
   have hgr:=hCm _ (List.getElem_mem hj2)
   rw [hpc] at hinn hgr
   simp only at hinn hgr
   have hqr:=hgq.mul hgr
   have hgi:=o_yo (q:=q) (B:=B) hgo (C.take j) (fun p hp=>by
    have:=hgq.mul (hCm p (List.mem_of_mem_take hp))
    rwa [Nat.mul_one] at this)
   have hget2:=(o_yn hgi (t1,t2,t3)).le (C:=CP) (by
    have e1:(C.take j).length≤j:=by rw [List.length_take];omega
    have e2:=Nat.mul_le_mul_right B e1
    have e3:(i*J+j)*B≤L*J*B:=Nat.mul_le_mul_right _ (by
     have:(i+1)*J≤L*J:=Nat.mul_le_mul_right J (by omega)
     rw [Nat.add_mul,Nat.one_mul] at this
     omega)
    rw [Nat.add_mul] at e3
    omega)
   have hq1:=hgq.rs hD hB hBD
   have hr1:=hgr.rs hG (Nat.le_refl _) hGs
   have hmul:=o_p0 q r hq1 hr1
   have hadd:=o_ww (innQ q (outQ next A i) (C.take j)) (t1,t2,t3) (q*r) (hget2.rs hDG (by omega) hsz) ((hqr.le (C:=CP) (by omega)).rs hDG (by omega) hsz)
   have ewj:IntKind.i64.wrap ((j:Int)+1)=((j+1:Nat):Int):=by rw [w64 (by omega) (by omega)];omega
   have hc6:j*6+6≤C.length*6:=by omega
   have hc7:j*6<C.length*6:=by omega
   rw [←hinn] at hadd
   rw [o_wt q,o_wt r,o_wt (q*r),hN,hM] at hmul
   rw [o_wt (q*r)] at hadd
   obtain ⟨P1,P2,P3,hP⟩:∃P1 P2 P3,rcD (q*r)=[P1,P2,P3]:=⟨_,_,_,rfl⟩
   rw [hP] at hmul hadd
   simp only [spO,stD] at hadd
   refine A10 (fs hj2 (fs hj3 (fs hgc (fs hCl (fs hc6 hc7))))) ?_;try with_reducible exact tt
   refine CallS.pu (hmul) (R0 ?_);try with_reducible exact tt
   refine CallS.g [2] (hadd) (R0 ?_);try with_reducible exact tt
   refine A10 ewj ?_;try with_reducible exact tt
   refine ⟨j+1,2,2,⟨by omega,by omega,by omega,by omega⟩,by omega,by omega,?_,?_⟩
   ·simp [swT,swH,sw,Ob.sw,V.ren,V.rens]
   ·simp [swT,swH,sw,Ob.sw,V.ren,V.rens]
  ·have h2:j=C.length:=by omega
   subst h2
   rw [List.take_length,←hon1]
   refine A00 ?_;try with_reducible exact tt
   refine A10 ewi ?_;try with_reducible exact tt
   refine ⟨i+1,2,2,⟨by omega,by omega,by omega,by omega⟩,by omega,by omega,?_,?_⟩
   ·simp [swT,swH,sw,Ob.sw,V.ren,V.rens]
   ·simp [swT,swH,sw,Ob.sw,V.ren,V.rens]
 ·have h2:i=A.length:=by omega
  subst h2
  refine A00 ?_;try with_reducible exact tt
set_option maxHeartbeats 4000000 in
theorem o_13g {f:FuncId} {next:St→Sp} (P:St→Prop) (l:Sp) (G D B L J CP:Nat) (hu:Uq l) (hok:∀p∈nzQ l,P p.1) (hnz:nzQ l≠[]) (h12:(nzQ l).length≤L) (hl:l.length≤1000000) (hD:0<D) (hB:1≤B) (hgl:∀p∈l,Gr D B p.2) (hG:0<G) (hf:∀s:St,P s→NextJ next G J s∧Eqn Tryz.prog f [.d (.agg (stD s))] [] (.mp 0) [spO (next s)]) (hsz:size (CP*(D*G))≤100000) (hCP:L*J*B≤CP) (hJ:1≤J) :
  Eqn Tryz.prog o_8r [.mp 0,.fn (.func f) []] [spO l] (.mp 1) [spO l,spO (timesQ next l)]:=by
 refine Eqn.gen [0,1] o_8t (by simp) (by simp) (by rfl) (by decide) (by simp) (by simp [spO]) ?_
 obtain ⟨A,hA⟩:∃A,A=atQ l:=⟨_,rfl⟩
 have hAl:A.length≤L:=by rw [hA,(o_w4 l).length_eq];exact h12
 have hAm6:A.length≤1000000:=Nat.le_trans (hA▸o_yt l) hl
 have hA0:1≤A.length:=by
  rw [hA,(o_w4 l).length_eq]
  rcases Nat.eq_zero_or_pos (nzQ l).length with e | e
  ·exact absurd (List.eq_nil_of_length_eq_zero e) hnz
  ·exact e
 have hAm:∀p∈A,p∈l:=fun p hp=>(List.mem_filter.1 ((o_w4 l).mem_iff.1 (hA▸hp))).1
 have hAz:∀p∈A,p∈nzQ l:=fun p hp=>(o_w4 l).mem_iff.1 (hA▸hp)
 have hDG:0<D*G:=Nat.mul_pos hD hG
 have hBC:B≤CP:=by
  refine Nat.le_trans ?_ hCP
  have:1≤L*J:=Nat.mul_pos (by omega) hJ
  exact Nat.le_mul_of_pos_left B this
 have hBD:size (B*D)≤100000:=by
  refine Nat.le_trans (o_l1 ?_) hsz
  exact Nat.mul_le_mul hBC (Nat.le_mul_of_pos_right D hG)
 have hat:=o_yg l hu hnz hl (fun p hp=>(hgl p hp).rs hD hB hBD)
 have hGs:size (1*G)≤100000:=by
  refine Nat.le_trans (o_l1 ?_) hsz
  rw [Nat.one_mul]
  exact Nat.le_trans (Nat.le_mul_of_pos_left G hD) (Nat.le_mul_of_pos_left _ (by omega))
 have hgn:∀s:St,P s→∀p∈next s,Gr G 1 p.2:=fun s hs=>(hf s hs).1.gr
 have hnl:∀s:St,P s→(atQ (next s)).length≤J:=fun s hs=>Nat.le_trans (o_yt _) (hf s hs).1.len
 have hnl6:∀s:St,P s→(atQ (next s)).length≤1000000:=fun s hs=>Nat.le_trans (hnl s hs) (hf s hs).1.j6
 have hout:=o_yp (D:=D) (E:=G) (B:=B) (J:=J) (next:=next) (A:=A) (fun p hp=>hgl p (hAm p hp)) (fun p hp=>⟨hgn p.1 (hok p (hAz p hp)),hnl p.1 (hok p (hAz p hp))⟩)
 have hon:=o_yl next A
 have hoa:outQ next A A.length=timesQ next l:=by rw [hA];exact o_ym next l
 have hADl:=o_vm rcD (fun _=>rfl) A
 have hget:=o_yv A
 rw [←hoa]
 rw [←hA] at hat
 have hcl:∀s:St,P s→Eqn Tryz.prog f [.d (.agg (stD s))] [] (.mp 0) [spO (next s)]∧Eqn Tryz.prog o_8f [.mp 0] [spO (next s)] (.d (.sl (atQ (next s)).length (spD rcD (atQ (next s))))) [spO (next s)]:=fun s hs=>by
  obtain ⟨hn,hh⟩:=hf s hs
  exact ⟨hh,o_yg _ hn.uq hn.nz (Nat.le_trans hn.len hn.j6) fun p hp=>(hgn s hs p hp).rs hG (Nat.le_refl _) hGs⟩
 have hAok:∀p∈A,P p.1:=fun p hp=>hok p (hAz p hp)
 clear hA hoa hnz hf
 refine cc (c':=?z301) ?_ ?_
 case refine_1=>cbv<;>exact rfl
 try simp only [spO] at hat hcl ⊢
 generalize hLl:spD rcD l=LL at *
 refine A00 ?_;try with_reducible exact tt
 refine CallS.g [0] (hat) (R0 ?_);try with_reducible exact tt
 refine AW.loopG (α:=Nat) (fun i=>setS (List.replicate 40 .junk) [(1,.fn (.func f) []),(5,.mp 1),(12,.d (.sl A.length (spD rcD A))),(13,.d (.int .i64 A.length)),(14,.d (.int .i64 (i:Nat)))]) (fun i=>[some ⟨1000391,LL.map .d⟩,some ⟨1000391,(spD rcD (outQ next A i)).map .d⟩]) (fun i=>i≤A.length) (fun i=>A.length-i) 0 ?_ (Nat.zero_le _) ?_ ?_ ?_
 ·intro i hi;simp
 ·simp
 ·simp [outQ,spD]
 rintro i hi
 simp
 by_cases hi2:i<A.length
 ·have hi3:(i:Int)<A.length:=by omega
  obtain ⟨s1,s2,s3,q,N1,N2,N3,hp,hN,hg⟩:=hget i hi2
  have hsk:=hAok _ (List.getElem_mem hi2)
  rw [hp] at hsk
  obtain ⟨hof,han⟩:=hcl (s1,s2,s3) hsk
  have hgq:Gr D B q:=by have:=hgl _ (hAm _ (List.getElem_mem hi2));rw [hp] at this;exact this
  have hon1:=hon i hi2
  rw [hp] at hon1
  simp only at hon1
  have hgo:=hout i hi
  have hn2:=hnl (s1,s2,s3) hsk
  have hgn2:=hgn (s1,s2,s3) hsk
  have hJ6:=(hnl6 (s1,s2,s3) hsk)
  obtain ⟨C,hC⟩:∃C,C=atQ (next (s1,s2,s3)):=⟨_,rfl⟩
  have hCm:∀p∈C,Gr G 1 p.2:=fun p hp=>hgn2 p (List.mem_filter.1 ((o_w4 _).mem_iff.1 (hC▸hp))).1
  rw [←hC] at hon1 han hn2 hJ6
  have hCl:=o_vm rcD (fun _=>rfl) C
  have hgetC:=o_yv C
  have ewi:IntKind.i64.wrap ((i:Int)+1)=((i+1:Nat):Int):=by rw [w64 (by omega) (by omega)];omega
  simp only [stD] at hof han
  generalize hNL:spD rcD (next (s1,s2,s3))=NL at *
  have hb6:i*6+6≤A.length*6:=by omega
  have hb7:i*6<A.length*6:=by omega
  refine A10 (fs hi2 (fs hi3 (fs hg (fs hADl (fs hb6 hb7))))) ?_;try with_reducible exact tt
  refine CallS.nX (hof) (R0 ?_);try with_reducible exact tt
  refine CallS.g [3] (han) (R0 ?_);try with_reducible exact tt
  refine AW.loopG (α:=Nat) (fun j=>setS (List.replicate 40 .junk) [(1,.fn (.func f) []),(5,.mp 1),(7,.p 2 0),(12,.d (.sl A.length (spD rcD A))),(13,.d (.int .i64 A.length)),(14,.d (.int .i64 (i:Nat))),(22,.d (.sl C.length (spD rcD C))),(23,.d (.int .i64 C.length)),(24,.d (.int .i64 (j:Nat)))]) (fun j=>[some ⟨1000391,LL.map .d⟩,some ⟨1000391,(spD rcD (innQ q (outQ next A i) (C.take j))).map .d⟩,some ⟨75,[.d (.int .i64 s1),.d (.int .i64 s2),.d (.bool s3),.d N1,.d N2,.d N3]⟩]) (fun j=>j≤C.length) (fun j=>C.length-j) 0 ?_ (Nat.zero_le _) ?_ ?_ ?_
  ·intro j hj;simp
  ·simp
  ·simp [innQ]
  rintro j hj
  simp
  by_cases hj2:j<C.length
  ·have hj3:(j:Int)<C.length:=by omega
   obtain ⟨t1,t2,t3,r,M1,M2,M3,hpc,hM,hgc⟩:=hgetC j hj2
   have hinn:=o_yk q (outQ next A i) C j hj2
   have hgr:=hCm _ (List.getElem_mem hj2)
   rw [hpc] at hinn hgr
   simp only at hinn hgr
   have hqr:=hgq.mul hgr
   have hgi:=o_yo (q:=q) (B:=B) hgo (C.take j) (fun p hp=>by
    have:=hgq.mul (hCm p (List.mem_of_mem_take hp))
    rwa [Nat.mul_one] at this)
   have hget2:=(o_yn hgi (t1,t2,t3)).le (C:=CP) (by
    have e1:(C.take j).length≤j:=by rw [List.length_take];omega
    have e2:=Nat.mul_le_mul_right B e1
    have e3:(i*J+j)*B≤L*J*B:=Nat.mul_le_mul_right _ (by
     have:(i+1)*J≤L*J:=Nat.mul_le_mul_right J (by omega)
     rw [Nat.add_mul,Nat.one_mul] at this
     omega)
    rw [Nat.add_mul] at e3
    omega)
   have hq1:=hgq.rs hD hB hBD
   have hr1:=hgr.rs hG (Nat.le_refl _) hGs
   have hmul:=o_p0 q r hq1 hr1
   have hadd:=o_ww (innQ q (outQ next A i) (C.take j)) (t1,t2,t3) (q*r) (hget2.rs hDG (by omega) hsz) ((hqr.le (C:=CP) (by omega)).rs hDG (by omega) hsz)
   have ewj:IntKind.i64.wrap ((j:Int)+1)=((j+1:Nat):Int):=by rw [w64 (by omega) (by omega)];omega
   have hc6:j*6+6≤C.length*6:=by omega
   have hc7:j*6<C.length*6:=by omega
   rw [←hinn] at hadd
   rw [o_wt q,o_wt r,o_wt (q*r),hN,hM] at hmul
   rw [o_wt (q*r)] at hadd
   obtain ⟨P1,P2,P3,hP⟩:∃P1 P2 P3,rcD (q*r)=[P1,P2,P3]:=⟨_,_,_,rfl⟩
   rw [hP] at hmul hadd
   simp only [spO,stD] at hadd
   refine A10 (fs hj2 (fs hj3 (fs hgc (fs hCl (fs hc6 hc7))))) ?_;try with_reducible exact tt
   refine CallS.pu (hmul) (R0 ?_);try with_reducible exact tt
   refine CallS.g [1] (hadd) (R0 ?_);try with_reducible exact tt
   refine A10 ewj ?_;try with_reducible exact tt
   refine ⟨j+1,1,1,⟨by omega,by omega⟩,by omega,by omega,?_,?_⟩
   ·simp [swT,swH,sw,Ob.sw,V.ren,V.rens]
   ·simp [swT,swH,sw,Ob.sw,V.ren,V.rens]
  ·have h2:j=C.length:=by omega
   subst h2
   rw [List.take_length,←hon1]
   refine A00 ?_;try with_reducible exact tt
   refine A10 ewi ?_;try with_reducible exact tt
   refine ⟨i+1,1,1,⟨by omega,by omega⟩,by omega,by omega,?_,?_⟩
   ·simp [swT,swH,sw,Ob.sw,V.ren,V.rens]
   ·simp [swT,swH,sw,Ob.sw,V.ren,V.rens]
 ·have h2:i=A.length:=by omega
  subst h2
  refine A00 ?_;try with_reducible exact tt
end
section
open Go.RowKit
theorem o_13h (s:St):∀i,(binI s i).length≤i
 | 0=>Nat.le_refl _
 | i+1=>Nat.le_trans (o_yr _ _ _) (Nat.succ_le_succ (o_13h s i))
theorem o_13i {α:Type} (c:Nat):∀l:List α,(l.map fun _=>c).sum=l.length*c
 | []=>by simp
 | _::l=>by rw [List.map_cons,List.sum_cons,o_13i c l,List.length_cons,Nat.add_mul];omega
theorem o_13j {A B:Nat} {l:Sp} (hu:Uq l) (h:kyQ (okT A B) l):l.length≤(A+1)*((B+1)*2):=by
 have h1:(l.map (·.1)).length≤((List.range (A+1)).flatMap fun a=>(List.range (B+1)).flatMap fun b=>([(a,b,false),(a,b,true)]:List St)).length:=by
  refine List.Nodup.length_le_of_subset hu fun t ht=>?_
  obtain ⟨p,hp,rfl⟩:=List.mem_map.1 ht
  obtain ⟨h1,h2,-⟩:=h p hp
  refine List.mem_flatMap.2 ⟨p.1.1,List.mem_range.2 (by omega),List.mem_flatMap.2 ⟨p.1.2.1,List.mem_range.2 (by omega),?_⟩⟩
  obtain ⟨⟨a,b,f⟩,q⟩:=p
  cases f<;>simp
 rw [List.length_map] at h1
 simpa [List.length_flatMap,o_13i] using h1
theorem SpOK.nextJ {e:Nat} {P:St→Prop} {next:St→Sp} {J:Nat} {s:St} (h:SpOK e P (next s)) (hl:(next s).length≤J) (hJ:J≤1000000):NextJ next (2^e) J s:=⟨h.uq,h.nz,hl,hJ,h.gr⟩
structure ThS (A B:Nat):Prop where
 a1:1≤A
 n:(A+1)*(B+1)≤1000
 b:B≤900
 a:A≤450
 gd:GoodT A B
theorem o_13k {L J e f:Nat} (hL:L≤100000) (hJ:J≤10000) (he:e+f≤90000):size (L*J*(2^e*2^f))≤100000:=by
 have h1:L*J≤100000*10000:=Nat.mul_le_mul hL hJ
 have h2:=o_om (L*J) (2^e*2^f)
 rw [←Nat.pow_add] at *
 have h3:=o_13b (e+f)
 have h4:size (L*J)≤1:=o_mr (by omega)
 omega
set_option maxHeartbeats 4000000 in
theorem o_13l {A B X:Nat} (h:ThS A B) (hX:X≤900) (hXB:X*(B+1)≤80000):∀(f:Nat) (s:St),s.2.1+f=B→s.1≤X→(s.2.2=true→s.2.1=B)→Eqn Tryz.prog o_bu [.d (parD 4 A B),.d (.agg (stD s))] [] (.mp 0) [spO (downA A B s)]:=by
 intro f
 induction f with
 | zero =>
  intro s hT hsX hf
  refine Eqn.gen [2] o_bw (by simp) (by simp) (by rfl) (by decide) (by simp) (by simp [spO]) ?_
  obtain ⟨K,T,F⟩:=s
  simp only at hT hsX hf
  by_cases hk:K≤A
  ·have hk':(K:Int)≤A:=by omega
   have hsu:=o_x0 (K,T,F)
   rw [o_11c (s:=(K,T,F)) hk]
   refine cc (c':=?z302) ?_ ?_
   case refine_1=>cbv<;>exact rfl
   try simp only [spO,stD,parD] at hsu ⊢
   generalize spD rcD _=L at *
   refine A10 (fs hk hk') ?_;try with_reducible exact tt
   refine CallS.nX (hsu) (R0 ?_);try with_reducible exact tt
  ·have hk':¬(K:Int)≤A:=by omega
   have hT2:T=B:=by omega
   have hsu:=o_x0 (A,T,true)
   rw [o_11d (s:=(K,T,F)) hk (by simp only;omega)]
   subst hT2
   refine cc (c':=?z303) ?_ ?_
   case refine_1=>cbv<;>exact rfl
   try simp only [spO,stD,parD] at hsu ⊢
   generalize spD rcD _=L at *
   refine A10 (fs hk hk') ?_;try with_reducible exact tt
   refine CallS.nX (hsu) (R0 ?_);try with_reducible exact tt
 | succ f ih =>
  intro s hT hsX hf
  by_cases hk:s.1≤A
  ·refine Eqn.gen [2] o_bw (by simp) (by simp) (by rfl) (by decide) (by simp) (by simp [spO]) ?_
   obtain ⟨K,T,F⟩:=s
   simp only at hT hsX hf hk
   have hk':(K:Int)≤A:=by omega
   have hsu:=o_x0 (K,T,F)
   rw [o_11c (s:=(K,T,F)) hk]
   refine cc (c':=?z304) ?_ ?_
   case refine_1=>cbv<;>exact rfl
   try simp only [spO,stD,parD] at hsu ⊢
   generalize spD rcD _=L at *
   refine A10 (fs hk hk') ?_;try with_reducible exact tt
   refine CallS.nX (hsu) (R0 ?_);try with_reducible exact tt
  ·have hTB:s.2.1<B:=by omega
   have hb:=SpOK.bin s
   have hbX:=hb.mono hsX fun _ h=>h
   have hJ:(A+1)*((B+1)*2)≤2000:=by rw [←Nat.mul_assoc];have:=h.n;omega
   have hXf:X+X*f≤90000:=by
    have:X*(f+1)≤X*(B+1):=Nat.mul_le_mul_left _ (by omega)
    rw [Nat.mul_add] at this
    omega
   have hcl:∀t:St,(t.1≤s.1∧t.2=(s.2.1+1,s.2.2))→NextJ (downA A B) (2^(X*f)) ((A+1)*((B+1)*2)) t∧Eqn Tryz.prog o_ed [.d (.agg (stD t)),.p 0 0] [PO 4 A B] (.mp 1) [PO 4 A B,spO (downA A B t)]:=by
    intro t ht
    have hf0:s.2.2=false:=by
     cases hf2:s.2.2 with
     | false=>rfl
     | true=>have:=hf hf2;omega
    have e1:t.2.1+f=B:=by rw [ht.2];simp only;omega
    have e2:t.2.2=true→t.2.1=B:=by rw [ht.2];simp only [hf0];intro h;cases h
    have hd:=SpOK.down (A:=A) (B:=B) (X:=X) f t e1 (by omega) e2
    refine ⟨hd.nextJ (o_13j hd.uq hd.ky) (by omega),?_⟩
    have hdn:=ih t e1 (by omega) e2
    refine Eqn.gen [0,2] o_ef (by simp) (by simp) (by rfl) (by decide) (by simp) (by simp [spO,PO]) ?_
    refine cc (c':=?z305) ?_ ?_
    case refine_1=>cbv<;>exact rfl
    try simp only [spO,stD,parD,PO] at hdn ⊢
    generalize spD rcD _=L at *
    refine A00 ?_;try with_reducible exact tt
    refine CallS.nX (hdn) (R0 ?_);try with_reducible exact tt
   have hti:=o_13f (f:=o_ed) (next:=downA A B) (T1:=62) (x0:=.int .i64 4) (x1:=.int .i64 A) (x2:=.int .i64 B) (by decide) (fun t:St=>t.1≤s.1∧t.2=(s.2.1+1,s.2.2)) (binQ s) (2^(X*f)) (2^X) 1 1000 ((A+1)*((B+1)*2)) (1000*((A+1)*((B+1)*2))) hb.uq (fun p hp=>hb.ky p (List.mem_filter.1 hp).1) hb.nz (Nat.le_trans (List.length_filter_le _ _) (Nat.le_trans (o_13h s _) (by omega))) (Nat.le_trans (o_13h s _) (by omega)) (Nat.two_pow_pos _) (Nat.le_refl _) hbX.gr (Nat.two_pow_pos _) hcl (o_13k (by omega) (by omega) hXf) (by omega) (Nat.mul_pos (by omega) (by omega))
   have hbi:=o_13e s (by omega) (by have:=h.b;omega)
   rw [o_11e hk hTB]
   refine Eqn.gen [3] o_bw (by simp) (by simp) (by rfl) (by decide) (by simp) (by simp [spO]) ?_
   obtain ⟨K,T,F⟩:=s
   simp only at hT hsX hf hk hTB
   have hk':¬(K:Int)≤A:=by omega
   have hTB':¬(T:Int)=B:=by omega
   have hTB2:¬T=B:=by omega
   have hTB3:((T:Int)==(B:Int))=false:=by simp;omega
   refine cc (c':=?z306) ?_ ?_
   case refine_1=>cbv<;>exact rfl
   try simp only [spO,stD,parD] at hbi hti ⊢
   generalize spD rcD (timesQ _ _)=L2 at *
   generalize spD rcD (binQ _)=L at *
   refine A10 (fs hk (fs hk' (fs hTB' (fs hTB2 hTB3)))) ?_;try with_reducible exact tt
   refine CallS.nX (hbi) (R0 ?_);try with_reducible exact tt
   refine CallS.g [2,0] (hti) (R0 ?_);try with_reducible exact tt
end
section
open Go.RowKit
set_option maxHeartbeats 4000000 in
theorem o_13m {A B:Nat} (h:ThS A B) (s:St) (hs:okT A B s):Eqn Tryz.prog o_8c [.d (parD 4 A B),.d (.agg (stD s))] [] (.mp 0) [spO (stepT A B s)]:=by
 obtain ⟨h1,h2,h3⟩:=hs
 have hb9:=h.b
 have ha9:=h.a
 have hX:(A+1)*(B+1)≤80000:=by have:=h.n;omega
 have hhf:=o_13a s.2.1 (by omega)
 have hrs:RS (mkRat 1 (2^s.2.1)) 1000:=RS.mk' (Nat.two_pow_pos _) (Nat.le_trans (o_mr (by decide)) (by omega)) (by have:=o_13b s.2.1;omega)
 have hei:=o_wy (mkRat 1 (2^s.2.1)) (s.1+1,s.2) s hrs (fun e=>by have:=congrArg (fun x:St=>x.1) e;simp at this)
 have he:SpOK B (fun t=>t.1≤A+1∧t.2=s.2) (eitQ (mkRat 1 (2^s.2.1)) (s.1+1,s.2) s):=SpOK.eit ((o_119 _).up h2) ((o_11a _).up h2) ⟨by simp only;omega,rfl⟩ ⟨by omega,rfl⟩
 have hel:(eitQ (mkRat 1 (2^s.2.1)) (s.1+1,s.2) s).length≤2:=Nat.le_trans (o_yr _ _ _) (Nat.succ_le_succ (Nat.le_trans (o_yr _ _ _) (by simp)))
 have hJ:(A+1)*((B+1)*2)≤2000:=by rw [←Nat.mul_assoc];have:=h.n;omega
 have hcl:∀t:St,(t.1≤A+1∧t.2=s.2)→NextJ (downA A B) (2^((A+1)*(B-s.2.1))) ((A+1)*((B+1)*2)) t∧Eqn Tryz.prog o_br [.d (.agg (stD t)),.p 0 0] [PO 4 A B] (.mp 1) [PO 4 A B,spO (downA A B t)]:=by
  intro t ht
  have e1:t.2.1+(B-s.2.1)=B:=by rw [ht.2];omega
  have e2:t.2.2=true→t.2.1=B:=by rw [ht.2];exact h3
  have hd:=SpOK.down (A:=A) (B:=B) (X:=A+1) (B-s.2.1) t e1 ht.1 e2
  refine ⟨hd.nextJ (o_13j hd.uq hd.ky) (by omega),?_⟩
  have hdn:=o_13l h (X:=A+1) (by omega) hX (B-s.2.1) t e1 ht.1 e2
  refine Eqn.gen [0,2] o_bt (by simp) (by simp) (by rfl) (by decide) (by simp) (by simp [spO,PO]) ?_
  refine cc (c':=?z307) ?_ ?_
  case refine_1=>cbv<;>exact rfl
  try simp only [spO,stD,parD,PO] at hdn ⊢
  generalize spD rcD _=L at *
  refine A00 ?_;try with_reducible exact tt
  refine CallS.nX (hdn) (R0 ?_);try with_reducible exact tt
 have hef:B+(A+1)*(B-s.2.1)≤90000:=by
  have:(A+1)*(B-s.2.1)≤(A+1)*(B+1):=Nat.mul_le_mul_left _ (by omega)
  have:=h.n
  omega
 have hti:=o_13f (f:=o_br) (next:=downA A B) (T1:=62) (x0:=.int .i64 4) (x1:=.int .i64 A) (x2:=.int .i64 B) (by decide) (fun t:St=>t.1≤A+1∧t.2=s.2) (eitQ (mkRat 1 (2^s.2.1)) (s.1+1,s.2) s) (2^((A+1)*(B-s.2.1))) (2^B) 1 2 ((A+1)*((B+1)*2)) (2*((A+1)*((B+1)*2))) he.uq (fun p hp=>he.ky p (List.mem_filter.1 hp).1) he.nz (Nat.le_trans (List.length_filter_le _ _) hel) (Nat.le_trans hel (by omega)) (Nat.two_pow_pos _) (Nat.le_refl _) he.gr (Nat.two_pow_pos _) hcl (o_13k (by omega) (by omega) hef) (by omega) (Nat.mul_pos (by omega) (by omega))
 rw [show timesQ (downA A B) (eitQ (mkRat 1 (2^s.2.1)) (s.1+1,s.2) s)=stepT A B s from rfl] at hti
 refine Eqn.gen [4] o_8e (by simp) (by simp) (by rfl) (by decide) (by simp) (by simp [spO]) ?_
 obtain ⟨K,T,F⟩:=s
 simp only at h1 h2 h3 hhf hei hti
 have ew:IntKind.i64.wrap ((K:Int)+1)=((K+1:Nat):Int):=by rw [w64 (by omega) (by omega)];omega
 obtain ⟨H1,H2,H3,hH⟩:∃H1 H2 H3,rcD (mkRat 1 (2^T))=[H1,H2,H3]:=⟨_,_,_,rfl⟩
 refine cc (c':=?z308) ?_ ?_
 case refine_1=>cbv<;>exact rfl
 try simp only [spO,stD,parD,o_wt] at hei hti hhf ⊢
 generalize spD rcD (stepT _ _ _)=L2 at *
 generalize spD rcD (eitQ _ _ _)=L at *
 rw [hH] at hhf hei
 obtain ⟨K1,hK1⟩:∃K1,K1=K+1:=⟨_,rfl⟩
 rw [←hK1] at hei ew
 refine A10 ew ?_;try with_reducible exact tt
 refine CallS.pu (hhf) (R0 ?_);try with_reducible exact tt
 refine CallS.nX (hei) (R0 ?_);try with_reducible exact tt
 refine CallS.g [3,0] (hti) (R0 ?_);try with_reducible exact tt
def dstT (A B:Nat) (s:St) (n:Nat):Sp:=ofQ (stepT A B) s n
theorem o_13n {A B:Nat} (h:ThS A B):Eqn Tryz.prog o_8l [.d (parD 4 A B)] [] (.d (.int .i64 ((A+1)*(B+1):Nat))) []:=by
 refine Eqn.pure o_8n Plain.ok ?_
 have h1:=h.a
 have h2:=h.b
 have h3:=h.n
 have e1:IntKind.i64.wrap ((A:Int)+1)=((A+1:Nat):Int):=by rw [w64 (by omega) (by omega)];omega
 have e2:IntKind.i64.wrap ((B:Int)+1)=((B+1:Nat):Int):=by rw [w64 (by omega) (by omega)];omega
 have e3:IntKind.i64.wrap (((A+1:Nat):Int)*((B+1:Nat):Int))=(((A+1)*(B+1):Nat):Int):=by rw [←Int.natCast_mul];exact w64 (by omega) (by omega)
 refine cc (c':=?z309) ?_ ?_
 case refine_1=>cbv<;>exact rfl
 try simp only [parD]
 obtain ⟨A1,hA1⟩:∃A1,A1=A+1:=⟨_,rfl⟩
 obtain ⟨B1,hB1⟩:∃B1,B1=B+1:=⟨_,rfl⟩
 rw [←hA1] at e1 e3 ⊢
 rw [←hB1] at e2 e3 ⊢
 obtain ⟨M,hM⟩:∃M,M=A1*B1:=⟨_,rfl⟩
 rw [←hM] at e3 ⊢
 refine A10 (fs e1 (fs e2 e3)) ?_;try with_reducible exact tt
theorem o_13o {A B:Nat} {s:St} (hs:okT A B s):WellR 4 A B s.1 s.2.1 s.2.2:=.inl ⟨rfl,hs⟩
theorem ThS.good {A B:Nat} (h:ThS A B):GoodR 4 A B:=.inl ⟨rfl,h.gd⟩
theorem o_13p {A B:Nat} (h:ThS A B) {s:St} (hs:okT A B s):(stepT A B s).length≤2000:=by
 have h1:=SpOK.stepT hs
 have h2:=o_13j h1.uq h1.ky
 rw [←Nat.mul_assoc] at h2
 have:=h.n
 omega
set_option maxHeartbeats 4000000 in
theorem o_13q {A B:Nat} (h:ThS A B) (s:St) (hs:okT A B s) (n:Nat) (hn:n≤64) (hcost:(n+1)*((A+1)*(B+1))≤512):Eqn Tryz.prog o_6x [.d (parD 4 A B),.d (.agg (stD s)),.d (.int .i64 n)] [] (.tup [.d (.sl (atQ (dstT A B s n)).length (spD rcD (atQ (dstT A B s n)))),.d (.int .i64 0)]) []:=by
 refine Eqn.pure o_6z Plain.ok ?_
 have hwr:=o_z0 h.good s (o_13o hs)
 have hst:=o_13n h
 have hsu:=o_x0 s
 have hof:∀i,SpOK (i*(B+(A+1)*B)) (okT A B) (ofQ (stepT A B) s i):=fun i=>SpOK.of (fun t (ht:okT A B t)=>SpOK.stepT ht) hs i
 have hE:(n+1)*(B+(A+1)*B)≤2000:=by
  have h1:B+(A+1)*B≤2*((A+1)*(B+1)):=by
   have h2:(A+1)*(B+1)=(A+1)*B+(A+1):=by rw [Nat.mul_add,Nat.mul_one]
   have h3:B≤(A+1)*B:=Nat.le_mul_of_pos_left B (by omega)
   omega
  have h2:=Nat.mul_le_mul_left (n+1) h1
  have h3:(n+1)*(2*((A+1)*(B+1)))=2*((n+1)*((A+1)*(B+1))):=by rw [Nat.mul_left_comm]
  omega
 have hlen:∀i,(dstT A B s i).length≤2000:=fun i=>by
  have h2:=o_13j (hof i).uq (hof i).ky
  have h3:=Nat.mul_assoc (A+1) (B+1) 2
  have:=h.n
  show (ofQ (stepT A B) s i).length≤2000
  omega
 have hcl:∀t:St,okT A B t→NextJ (stepT A B) (2^(B+(A+1)*B)) 2000 t∧Eqn Tryz.prog o_8u [.d (.agg (stD t)),.p 0 0] [PO 4 A B] (.mp 1) [PO 4 A B,spO (stepT A B t)]:=by
  intro t ht
  refine ⟨(SpOK.stepT ht).nextJ (o_13p h ht) (by omega),?_⟩
  have hst:=o_13m h t ht
  refine Eqn.gen [0,2] o_8w (by simp) (by simp) (by rfl) (by decide) (by simp) (by simp [spO,PO]) ?_
  refine cc (c':=?z310) ?_ ?_
  case refine_1=>cbv<;>exact rfl
  try simp only [spO,stD,parD,PO] at hst ⊢
  generalize spD rcD _=L at *
  refine A00 ?_;try with_reducible exact tt
  refine CallS.nX (hst) (R0 ?_);try with_reducible exact tt
 have hti:∀i,i<n→Eqn Tryz.prog o_8r [.mp 0,.fn (.func o_8u) [.p 1 0]] [spO (dstT A B s i),PO 4 A B] (.mp 2) [spO (dstT A B s i),PO 4 A B,spO (dstT A B s (i+1))]:=fun i hi=>by
  have hef:i*(B+(A+1)*B)+(B+(A+1)*B)≤90000:=by
   have h1:(i+1)*(B+(A+1)*B)≤(n+1)*(B+(A+1)*B):=Nat.mul_le_mul_right _ (by omega)
   rw [Nat.add_mul,Nat.one_mul] at h1
   omega
  exact o_13f (f:=o_8u) (next:=stepT A B) (T1:=62) (x0:=.int .i64 4) (x1:=.int .i64 A) (x2:=.int .i64 B) (by decide) (okT A B) (dstT A B s i) (2^(B+(A+1)*B)) (2^(i*(B+(A+1)*B))) 1 2000 2000 (2000*2000) (hof i).uq (fun p hp=>(hof i).ky p (List.mem_filter.1 hp).1) (hof i).nz (Nat.le_trans (List.length_filter_le _ _) (hlen i)) (Nat.le_trans (hlen i) (by omega)) (Nat.two_pow_pos _) (Nat.le_refl _) (hof i).gr (Nat.two_pow_pos _) hcl (o_13k (by omega) (by omega) hef) (by omega) (by omega)
 have hat:Eqn Tryz.prog o_8f [.mp 0] [spO (dstT A B s n)] (.d (.sl (atQ (dstT A B s n)).length (spD rcD (atQ (dstT A B s n))))) [spO (dstT A B s n)] :=
  o_yg _ (hof n).uq (hof n).nz (Nat.le_trans (hlen n) (by omega)) ((hof n).rs (by
   have h1:n*(B+(A+1)*B)≤(n+1)*(B+(A+1)*B):=Nat.mul_le_mul_right _ (by omega)
   omega))
 have hd0:dstT A B s 0=[(s,1)]:=rfl
 rw [←hd0] at hsu
 have e1:IntKind.i64.wrap ((n:Int)+1)=((n+1:Nat):Int):=by rw [w64 (by omega) (by omega)];omega
 obtain ⟨W,hW⟩:∃W,W=(A+1)*(B+1):=⟨_,rfl⟩
 rw [←hW] at hst hcost
 have e2:IntKind.i64.wrap (((n+1:Nat):Int)*(W:Int))=(((n+1)*W:Nat):Int):=by rw [←Int.natCast_mul];exact w64 (by omega) (by omega)
 obtain ⟨M,hM⟩:∃M,M=(n+1)*W:=⟨_,rfl⟩
 rw [←hM] at e2 hcost
 obtain ⟨n1,hn1⟩:∃n1,n1=n+1:=⟨_,rfl⟩
 rw [←hn1] at e1 e2
 have g1:¬(n:Int)<0:=by omega
 have g2:¬(64:Int)<n:=by omega
 have g3:¬(512:Int)<M:=by omega
 have g4:¬512<M:=by omega
 have g5:¬64<n:=by omega
 generalize hA:atQ (dstT A B s n)=AA at *
 refine cc (c':=?z311) ?_ ?_
 case refine_1=>cbv<;>exact rfl
 try simp only [stD,parD,spO,PO] at hwr hst hsu hti hat ⊢
 refine A00 ?_;try with_reducible exact tt
 refine CallS.pf 2 3 ⟨64,[.d (.int .i64 s.1),.d (.int .i64 s.2.1),.d (.bool s.2.2)]⟩ [.int .i64 s.1,.int .i64 s.2.1,.bool s.2.2] (hwr) (by first | rfl | (simp [g1,g2,g5];done)) (R1 (fs g1 (fs g2 g5)) ?_);try with_reducible exact tt
 refine A10 (fs g1 (fs g2 (fs g5 e1))) ?_;try with_reducible exact tt
 refine CallS.pu (hst) (R1 (fs e2 (fs g3 g4)) ?_);try with_reducible exact tt
 refine A10 (fs e2 (fs g3 g4)) ?_;try with_reducible exact tt
 refine CallS.nX (hsu) (R0 ?_);try with_reducible exact tt
 refine AW.loopG (α:=Nat) (fun i=>setS (List.replicate 43 .junk) [(3,.p 0 0),(9,.mp 3),(34,.d (.int .i64 n)),(35,.d (.int .i64 (i:Nat)))]) (fun i=>[some ⟨62,[.d (.int .i64 (4:Nat)),.d (.int .i64 A),.d (.int .i64 B)]⟩,none,none,some ⟨1000391,(spD rcD (dstT A B s i)).map .d⟩]) (fun i=>i≤n) (fun i=>n-i) 0 ?_ (Nat.zero_le _) ?_ ?_ ?_
 ·intro i hi;simp
 ·simp
 ·simp
 rintro i hi
 simp
 by_cases hi2:i<n
 ·have hi3:(i:Int)<n:=by omega
  have ew:IntKind.i64.wrap ((i:Int)+1)=((i+1:Nat):Int):=by rw [w64 (by omega) (by omega)];omega
  have ht:=hti i (by omega)
  refine A10 (fs hi2 hi3) ?_;try with_reducible exact tt
  refine CallS.g [3,0] (ht) (R1 ew ?_);try with_reducible exact tt
  refine A10 ew ?_;try with_reducible exact tt
  refine ⟨i+1,3,4,by omega,by omega,by omega,?_,?_⟩
  ·simp [swT,swH,sw,Ob.sw,V.ren,V.rens]
  ·simp [swT,swH,sw,Ob.sw,V.ren,V.rens]
 ·have h2:i=n:=by omega
  subst h2
  refine A00 ?_;try with_reducible exact tt
  refine CallS.g [3] (hat) (R0 ?_);try with_reducible exact tt
  done
end
section
open Go.RowKit
theorem o_13r {D C M:Nat} {out:Sp} (h:∀p∈out,Gr D C p.2) {s:St} {x:Rat} (hx:Gr D M x):∀p∈addQ out s x,Gr D (C+M) p.2:=by
 intro p hp
 rcases o_wi hp with hp | rfl
 ·exact (h p hp).le (by omega)
 ·exact (o_yn h _).add hx
theorem o_13s {D C:Nat} {f:Bool} {x:St×Rat} {B out:Sp} (ho:∀p∈out,Gr D C p.2) (hB:∀y∈B,Gr D 1 (x.2*y.2)):∀j,j≤B.length→∀p∈joI f x B out j,Gr D (C+j) p.2
 | 0,_=>fun p hp=>ho p (by simpa [joI] using hp)
 | j+1,hj=>by
  rw [o_11f f x B out j hj]
  exact o_13r (o_13s ho hB j (by omega)) (hB _ (List.getElem_mem _))
theorem o_13t {D:Nat} {f:Bool} {A B:Sp} (hAB:∀x∈A,∀y∈B,Gr D 1 (x.2*y.2)):∀i,i≤A.length→∀p∈joO f A B i,Gr D (i*B.length) p.2
 | 0,_=>fun p hp=>by simp [joO] at hp
 | i+1,hi=>by
  rw [o_11g f A B i hi,Nat.add_mul,Nat.one_mul]
  exact o_13s (o_13t hAB i (by omega)) (hAB _ (List.getElem_mem _)) _ (Nat.le_refl _)
theorem o_13u (s:St):∀n,(thinQ s n).length≤s.1+1
 | n=>by
  have h:=SpOK.thin s n
  have h1:((thinQ s n).map (·.1)).length≤((List.range (s.1+1)).map fun k=>((k,s.2.1+n,s.2.2):St)).length:=by
   refine List.Nodup.length_le_of_subset h.uq fun t ht=>?_
   obtain ⟨p,hp,rfl⟩:=List.mem_map.1 ht
   obtain ⟨h1,h2⟩:=h.ky p hp
   refine List.mem_map.2 ⟨p.1.1,List.mem_range.2 (by omega),?_⟩
   rw [←h2]
  simpa using h1
set_option maxHeartbeats 4000000 in
theorem o_13v (s:St) (z:Int) (n:Nat) (hz:max 0 z=n) (hK:s.1≤900) (hT:s.2.1+n≤1000) (hKn:(n+1)*s.1≤80000):Eqn Tryz.prog o_cm [.d (.agg (stD s)),.d (.int .i64 z)] [] (.mp 0) [spO (thinQ s n)]:=by
 have hsu:=o_x0 s
 rw [show [(s,(1:Rat))]=thinQ s 0 from rfl] at hsu
 have hti:∀i,i<n→Eqn Tryz.prog o_8r [.mp 0,.fn (.func o_ea) []] [spO (thinQ s i)] (.mp 1) [spO (thinQ s i),spO (thinQ s (i+1))]:=fun i hi=>by
  have h:=SpOK.thin s i
  have hl:=o_13u s i
  have hcl:∀t:St,(t.1≤s.1∧t.2=(s.2.1+i,s.2.2))→NextJ binQ (2^s.1) 1000 t∧Eqn Tryz.prog o_ea [.d (.agg (stD t))] [] (.mp 0) [spO (binQ t)]:=fun t ht =>
   ⟨((SpOK.bin t).mono ht.1 fun _ h=>h).nextJ (Nat.le_trans (o_13h t _) (by omega)) (by omega),o_13e t (by omega) (by rw [ht.2];simp only;omega)⟩
  have hef:i*s.1+s.1≤90000:=by
   have h1:(i+1)*s.1≤(n+1)*s.1:=Nat.mul_le_mul_right _ (by omega)
   rw [Nat.add_mul,Nat.one_mul] at h1
   omega
  exact o_13g (f:=o_ea) (next:=binQ) (fun t:St=>t.1≤s.1∧t.2=(s.2.1+i,s.2.2)) (thinQ s i) (2^s.1) (2^(i*s.1)) 1 1000 1000 (1000*1000) h.uq (fun p hp=>h.ky p (List.mem_filter.1 hp).1) h.nz (Nat.le_trans (List.length_filter_le _ _) (Nat.le_trans hl (by omega))) (Nat.le_trans hl (by omega)) (Nat.two_pow_pos _) (Nat.le_refl _) h.gr (Nat.two_pow_pos _) hcl (o_13k (by omega) (by omega) hef) (by omega) (by omega)
 refine Eqn.gen [1] o_co (by simp) (by simp) (by rfl) (by decide) (by simp) (by simp [spO]) ?_
 refine cc (c':=?z312) ?_ ?_
 case refine_1=>cbv<;>exact rfl
 try simp only [spO,stD] at hsu hti ⊢
 refine A00 ?_;try with_reducible exact tt
 refine CallS.nX (hsu) (R1 hz ?_);try with_reducible exact tt
 refine A10 hz ?_;try with_reducible exact tt
 refine AW.loopG (α:=Nat) (fun i=>setS (List.replicate 16 .junk) [(1,.d (.int .i64 z)),(2,.p 0 0),(5,.mp 1),(9,.d (.int .i64 n)),(10,.d (.int .i64 (i:Nat)))]) (fun i=>[some ⟨64,[.d (.int .i64 s.1),.d (.int .i64 s.2.1),.d (.bool s.2.2)]⟩,some ⟨1000391,(spD rcD (thinQ s i)).map .d⟩]) (fun i=>i≤n) (fun i=>n-i) 0 ?_ (Nat.zero_le _) ?_ ?_ ?_
 ·intro i hi;simp
 ·simp
 ·simp
 rintro i hi
 simp
 by_cases hi2:i<n
 ·have hi3:(i:Int)<n:=by omega
  have ew:IntKind.i64.wrap ((i:Int)+1)=((i+1:Nat):Int):=by rw [w64 (by omega) (by omega)];omega
  have ht:=hti i hi2
  refine A10 (fs hi2 hi3) ?_;try with_reducible exact tt
  refine CallS.g [1] (ht) (R1 ew ?_);try with_reducible exact tt
  refine A10 ew ?_;try with_reducible exact tt
  refine ⟨i+1,1,2,by omega,by omega,by omega,?_,?_⟩
  ·simp [swT,swH,sw,Ob.sw,V.ren,V.rens]
  ·simp [swT,swH,sw,Ob.sw,V.ren,V.rens]
 ·have h2:i=n:=by omega
  subst h2
  refine A00 ?_;try with_reducible exact tt
  done
end
section
open Go.RowKit
set_option maxHeartbeats 8000000 in
theorem o_13w {A B:Nat} (h:ThS A B) (s o:St) (hs:okT A B s) (ho:okT A B o):Eqn Tryz.prog o_8x [.d (parD 4 A B),.d (.agg (stD s)),.d (.agg (stD o))] [] (.mp 0) [spO (mgT A B s o)]:=by
 obtain ⟨s1,s2,s3⟩:=hs
 obtain ⟨o1,o2,o3⟩:=ho
 have hb9:=h.b
 have ha9:=h.a
 have hn:=h.n
 have hAB:(B+1)*A≤1000:=by
  have e1:(A+1)*(B+1)=A*(B+1)+(B+1):=by rw [Nat.add_mul,Nat.one_mul]
  rw [Nat.mul_comm]
  omega
 obtain ⟨na,hna⟩:∃na,na=o.2.1-s.2.1:=⟨_,rfl⟩
 obtain ⟨nb,hnb⟩:∃nb,nb=s.2.1-o.2.1:=⟨_,rfl⟩
 have hka:(na+1)*s.1≤1000:=Nat.le_trans (Nat.mul_le_mul (show na+1≤B+1 by omega) s1) hAB
 have hkb:(nb+1)*o.1≤1000:=Nat.le_trans (Nat.mul_le_mul (show nb+1≤B+1 by omega) o1) hAB
 have hta:=o_13v s ((o.2.1:Int)-s.2.1) na (by omega) (by omega) (by omega) (by omega)
 have htb:=o_13v o ((s.2.1:Int)-o.2.1) nb (by omega) (by omega) (by omega) (by omega)
 have ha:=SpOK.thin s na
 have hb:=SpOK.thin o nb
 have haat:=o_yg (thinQ s na) ha.uq ha.nz (Nat.le_trans (o_13u s na) (by omega)) (ha.rs (by rw [Nat.add_mul] at hka;omega))
 have hbat:=o_yg (thinQ o nb) hb.uq hb.nz (Nat.le_trans (o_13u o nb) (by omega)) (hb.rs (by rw [Nat.add_mul] at hkb;omega))
 have hA:=ha.at
 have hB:=hb.at
 have hAl:(atQ (thinQ s na)).length≤1000:=Nat.le_trans (o_yt _) (Nat.le_trans (o_13u s na) (by omega))
 have hBl:(atQ (thinQ o nb)).length≤1000:=Nat.le_trans (o_yt _) (Nat.le_trans (o_13u o nb) (by omega))
 have hrA:=hA.rs (by rw [Nat.add_mul] at hka;omega)
 have hrB:=hB.rs (by rw [Nat.add_mul] at hkb;omega)
 have hmg:mgT A B s o=timesQ (downA A B) (joQ (s.2.2 || o.2.2) (atQ (thinQ s na)) (atQ (thinQ o nb))):=by rw [hna,hnb];rfl
 obtain ⟨FF,hFF⟩:∃FF,FF=(s.2.2 || o.2.2):=⟨_,rfl⟩
 rw [←hFF] at hmg
 have hj:SpOK (na*s.1+nb*o.1) (fun t=>t.1≤A+A∧t.2=(max s.2.1 o.2.1,FF)) (joQ FF (atQ (thinQ s na)) (atQ (thinQ o nb))):=hA.join hB fun t u ht hu=>⟨by simp only;omega,by simp only [ht.2,Prod.mk.injEq,and_true];omega⟩
 have hkT:na*s.1+nb*o.1≤2000:=by rw [Nat.add_mul] at hka hkb;omega
 have hX:(A+A)*(B+1)≤80000:=by
  have e1:(A+1)*(B+1)=A*(B+1)+(B+1):=by rw [Nat.add_mul,Nat.one_mul]
  have e2:(A+A)*(B+1)=2*(A*(B+1)):=by rw [←Nat.two_mul,Nat.mul_assoc]
  omega
 have hJ:(A+1)*((B+1)*2)≤2000:=by have:=Nat.mul_assoc (A+1) (B+1) 2;omega
 have hfx:FF=true→max s.2.1 o.2.1=B:=by
  rw [hFF]
  simp only [Bool.or_eq_true]
  rintro (h | h)
  ·have:=s3 h;omega
  ·have:=o3 h;omega
 have hcl:∀t:St,(t.1≤A+A∧t.2=(max s.2.1 o.2.1,FF))→NextJ (downA A B) (2^((A+A)*(B-max s.2.1 o.2.1))) ((A+1)*((B+1)*2)) t∧Eqn Tryz.prog o_cp [.d (.agg (stD t)),.p 0 0] [PO 4 A B] (.mp 1) [PO 4 A B,spO (downA A B t)]:=by
  intro t ht
  have e1:t.2.1+(B-max s.2.1 o.2.1)=B:=by rw [ht.2];simp only;omega
  have e2:t.2.2=true→t.2.1=B:=by rw [ht.2];exact hfx
  have hd:=SpOK.down (A:=A) (B:=B) (X:=A+A) (B-max s.2.1 o.2.1) t e1 ht.1 e2
  refine ⟨hd.nextJ (o_13j hd.uq hd.ky) (by omega),?_⟩
  have hdn:=o_13l h (X:=A+A) (by omega) hX (B-max s.2.1 o.2.1) t e1 ht.1 e2
  refine Eqn.gen [0,2] o_cr (by simp) (by simp) (by rfl) (by decide) (by simp) (by simp [spO,PO]) ?_
  refine cc (c':=?z313) ?_ ?_
  case refine_1=>cbv<;>exact rfl
  try simp only [spO,stD,parD,PO] at hdn ⊢
  generalize spD rcD _=L at *
  refine A00 ?_;try with_reducible exact tt
  refine CallS.nX (hdn) (R0 ?_);try with_reducible exact tt
 have hef:na*s.1+nb*o.1+(A+A)*(B-max s.2.1 o.2.1)≤90000:=by
  have:(A+A)*(B-max s.2.1 o.2.1)≤(A+A)*(B+1):=Nat.mul_le_mul_left _ (by omega)
  omega
 have hjl:(joQ FF (atQ (thinQ s na)) (atQ (thinQ o nb))).length≤2000:=by
  have h1:((joQ FF (atQ (thinQ s na)) (atQ (thinQ o nb))).map (·.1)).length≤((List.range (A+A+1)).map fun k=>((k,max s.2.1 o.2.1,FF):St)).length:=by
   refine List.Nodup.length_le_of_subset hj.uq fun t ht=>?_
   obtain ⟨p,hp,rfl⟩:=List.mem_map.1 ht
   obtain ⟨h1,h2⟩:=hj.ky p hp
   refine List.mem_map.2 ⟨p.1.1,List.mem_range.2 (by omega),?_⟩
   rw [←h2]
  rw [List.length_map,List.length_map,List.length_range] at h1
  omega
 have hti:=o_13f (f:=o_cp) (next:=downA A B) (T1:=62) (x0:=.int .i64 4) (x1:=.int .i64 A) (x2:=.int .i64 B) (by decide) (fun t:St=>t.1≤A+A∧t.2=(max s.2.1 o.2.1,FF)) (joQ FF (atQ (thinQ s na)) (atQ (thinQ o nb))) (2^((A+A)*(B-max s.2.1 o.2.1))) (2^(na*s.1+nb*o.1)) 1 2000 ((A+1)*((B+1)*2)) (2000*((A+1)*((B+1)*2))) hj.uq (fun p hp=>hj.ky p (List.mem_filter.1 hp).1) hj.nz (Nat.le_trans (List.length_filter_le _ _) hjl) (Nat.le_trans hjl (by omega)) (Nat.two_pow_pos _) (Nat.le_refl _) hj.gr (Nat.two_pow_pos _) hcl (o_13k (by omega) (by omega) hef) (by omega) (Nat.mul_pos (by omega) (by omega))
 rw [←hmg] at hti
 have hAB2:∀x∈atQ (thinQ s na),∀y∈atQ (thinQ o nb),Gr (2^(na*s.1)*2^(nb*o.1)) 1 (x.2*y.2):=fun x hx y hy=>(hA.gr x hx).mul (hB.gr y hy)
 have hkeyA:=hA.ky
 have hkeyB:=hB.ky
 unfold joQ at hti
 clear hj hjl hmg hef hcl hJ hX ha hb hA hB
 obtain ⟨AL,hAL⟩:∃AL,AL=atQ (thinQ s na):=⟨_,rfl⟩
 obtain ⟨BL,hBL⟩:∃BL,BL=atQ (thinQ o nb):=⟨_,rfl⟩
 rw [←hAL,←hBL] at hti
 rw [←hAL] at haat hAl hrA hAB2 hkeyA
 rw [←hBL] at hbat hBl hrB hAB2 hkeyB
 clear hAL hBL
 have hsz:size (1000000*(2^(na*s.1)*2^(nb*o.1)))≤100000:=by
  have:=o_13k (L:=1000) (J:=1000) (e:=na*s.1) (f:=nb*o.1) (by omega) (by omega) (by omega)
  exact this
 obtain ⟨DD,hDD⟩:∃DD,DD=2^(na*s.1)*2^(nb*o.1):=⟨_,rfl⟩
 have hDp:0<DD:=by rw [hDD];exact Nat.mul_pos (Nat.two_pow_pos _) (Nat.two_pow_pos _)
 rw [←hDD] at hsz hAB2
 have hADl:=o_vm rcD (fun _=>rfl) AL
 have hBDl:=o_vm rcD (fun _=>rfl) BL
 have hgetA:=o_yv AL
 have hgetB:=o_yv BL
 have hgO:=o_13t (f:=FF) hAB2
 refine Eqn.gen [6] o_8z (by simp) (by simp) (by rfl) (by decide) (by simp) (by simp [spO]) ?_
 obtain ⟨K,T,F⟩:=s
 obtain ⟨K2,T2,F2⟩:=o
 simp only at s1 s2 o1 o2 hFF hta htb haat hbat hti hkeyA hkeyB
 have e1:IntKind.i64.wrap ((T2:Int)-T)=(T2:Int)-T:=w64 (by omega) (by omega)
 have e2:IntKind.i64.wrap ((T:Int)-T2)=(T:Int)-T2:=w64 (by omega) (by omega)
 refine cc (c':=?z314) ?_ ?_
 case refine_1=>cbv<;>exact rfl
 try simp only [spO,stD,parD] at hta htb haat hbat hti ⊢
 generalize spD rcD (mgT A B (K,T,F) (K2,T2,F2))=LM at *
 generalize spD rcD (thinQ (K,T,F) na)=LA at *
 generalize spD rcD (thinQ (K2,T2,F2) nb)=LB at *
 refine A10 (fs e1 e2) ?_;try with_reducible exact tt
 refine CallS.nX (hta) (R1 e2 ?_);try with_reducible exact tt
 refine CallS.nX (htb) (R1 e2 ?_);try with_reducible exact tt
 refine A00 ?_;try with_reducible exact tt
 refine CallS.g [3] (haat) (R0 ?_);try with_reducible exact tt
 refine AW.loopG (α:=Nat) (fun i=>setS (List.replicate 79 .junk) [(3,.p 0 0),(4,.p 1 0),(5,.p 2 0),(7,.mp 3),(8,.mp 4),(9,.mp 5),(37,.d (.sl AL.length (spD rcD AL))),(38,.d (.int .i64 AL.length)),(39,.d (.int .i64 (i:Nat)))]) (fun i=>[some ⟨62,[.d (.int .i64 (4:Nat)),.d (.int .i64 A),.d (.int .i64 B)]⟩,some ⟨64,[.d (.int .i64 K),.d (.int .i64 T),.d (.bool F)]⟩,some ⟨64,[.d (.int .i64 K2),.d (.int .i64 T2),.d (.bool F2)]⟩,some ⟨1000391,LA.map .d⟩,some ⟨1000391,LB.map .d⟩,some ⟨1000391,(spD rcD (joO FF AL BL i)).map .d⟩]) (fun i=>i≤AL.length) (fun i=>AL.length-i) 0 ?_ (Nat.zero_le _) ?_ ?_ ?_
 ·intro i hi;simp
 ·simp
 ·simp [joO,spD]
 rintro i hi
 simp
 by_cases hi2:i<AL.length
 ·have hi3:(i:Int)<AL.length:=by omega
  obtain ⟨x1,x2,x3,q,N1,N2,N3,hp,hN,hg⟩:=hgetA i hi2
  have hxm:((x1,x2,x3),q)∈AL:=by rw [←hp];exact List.getElem_mem hi2
  have hky:=hkeyA _ hxm
  have hxr:=hrA _ hxm
  have hgo:=hgO i hi
  have hnx:=o_11g FF AL BL i hi2
  rw [hp] at hnx
  have ewi:IntKind.i64.wrap ((i:Int)+1)=((i+1:Nat):Int):=by rw [w64 (by omega) (by omega)];omega
  have hb6:i*6+6≤AL.length*6:=by omega
  have hb7:i*6<AL.length*6:=by omega
  obtain ⟨hx1,hx2⟩:=hky
  simp only [Prod.mk.injEq] at hx1 hx2
  refine A10 (fs hi2 (fs hi3 (fs hg (fs hADl (fs hb6 hb7))))) ?_;try with_reducible exact tt
  refine CallS.g [4] (hbat) (R0 ?_);try with_reducible exact tt
  refine AW.loopG (α:=Nat) (fun j=>setS (List.replicate 79 .junk) [(3,.p 0 0),(4,.p 1 0),(5,.p 2 0),(7,.mp 3),(8,.mp 4),(9,.mp 5),(11,.p 6 0),(37,.d (.sl AL.length (spD rcD AL))),(38,.d (.int .i64 AL.length)),(39,.d (.int .i64 (i:Nat))),(44,.d (.sl BL.length (spD rcD BL))),(45,.d (.int .i64 BL.length)),(46,.d (.int .i64 (j:Nat)))]) (fun j=>[some ⟨62,[.d (.int .i64 (4:Nat)),.d (.int .i64 A),.d (.int .i64 B)]⟩,some ⟨64,[.d (.int .i64 K),.d (.int .i64 T),.d (.bool F)]⟩,some ⟨64,[.d (.int .i64 K2),.d (.int .i64 T2),.d (.bool F2)]⟩,some ⟨1000391,LA.map .d⟩,some ⟨1000391,LB.map .d⟩,some ⟨1000391,(spD rcD (joI FF ((x1,x2,x3),q) BL (joO FF AL BL i) j)).map .d⟩,some ⟨75,[.d (.int .i64 x1),.d (.int .i64 x2),.d (.bool x3),.d N1,.d N2,.d N3]⟩]) (fun j=>j≤BL.length) (fun j=>BL.length-j) 0 ?_ (Nat.zero_le _) ?_ ?_ ?_
  ·intro j hj;simp
  ·simp
  ·simp [joI]
  rintro j hj
  simp
  by_cases hj2:j<BL.length
  ·have hj3:(j:Int)<BL.length:=by omega
   obtain ⟨y1,y2,y3,r,M1,M2,M3,hpy,hM,hgy⟩:=hgetB j hj2
   have hym:((y1,y2,y3),r)∈BL:=by rw [←hpy];exact List.getElem_mem hj2
   obtain ⟨hy1,-⟩:=hkeyB _ hym
   simp only at hy1
   have hyr:=hrB _ hym
   have hnj:=o_11f FF ((x1,x2,x3),q) BL (joO FF AL BL i) j hj2
   rw [hpy] at hnj
   simp only at hnj
   have hgi:=o_13s (f:=FF) hgo (hAB2 _ hxm) j hj
   have hqr:=hAB2 _ hxm _ hym
   have hcap:i*BL.length+j+1≤1000000:=by
    have:(i+1)*BL.length≤1000*1000:=Nat.mul_le_mul (by omega) hBl
    rw [Nat.add_mul,Nat.one_mul] at this
    omega
   have hadd:=o_ww (joI FF ((x1,x2,x3),q) BL (joO FF AL BL i) j) (x1+y1,x2,FF) (q*r) (((o_yn hgi _).le (C:=1000000) (by omega)).rs hDp (by omega) hsz) ((hqr.le (C:=1000000) (by omega)).rs hDp (by omega) hsz)
   rw [←hnj] at hadd
   have hmul:=o_p0 q r hxr hyr
   have ews:IntKind.i64.wrap ((x1:Int)+y1)=((x1+y1:Nat):Int):=by rw [w64 (by omega) (by omega)];omega
   have ewj:IntKind.i64.wrap ((j:Int)+1)=((j+1:Nat):Int):=by rw [w64 (by omega) (by omega)];omega
   have hc6:j*6+6≤BL.length*6:=by omega
   have hc7:j*6<BL.length*6:=by omega
   obtain ⟨xy,hxy⟩:∃xy,xy=x1+y1:=⟨_,rfl⟩
   rw [←hxy] at hadd ews
   rw [o_wt q,o_wt r,o_wt (q*r),hN,hM] at hmul
   rw [o_wt (q*r)] at hadd
   obtain ⟨P1,P2,P3,hP⟩:∃P1 P2 P3,rcD (q*r)=[P1,P2,P3]:=⟨_,_,_,rfl⟩
   rw [hP] at hmul hadd
   simp only [spO,stD] at hadd
   cases F with
   | true =>
    simp only [Bool.true_or] at hFF
    subst hFF
    refine A10 (fs hj2 (fs hj3 (fs hgy (fs hBDl (fs hc6 (fs hc7 ews)))))) ?_;try with_reducible exact tt
    refine CallS.pu (hmul) (R0 ?_);try with_reducible exact tt
    refine CallS.g [5] (hadd) (R0 ?_);try with_reducible exact tt
    refine A10 ewj ?_;try with_reducible exact tt
    refine ⟨j+1,5,5,⟨by omega,by omega⟩,by omega,by omega,?_,?_⟩
    ·simp [swT,swH,sw,Ob.sw,V.ren,V.rens]
    ·simp [swT,swH,sw,Ob.sw,V.ren,V.rens]
   | false =>
    simp only [Bool.false_or] at hFF
    subst hFF
    refine A10 (fs hj2 (fs hj3 (fs hgy (fs hBDl (fs hc6 (fs hc7 ews)))))) ?_;try with_reducible exact tt
    refine CallS.pu (hmul) (R0 ?_);try with_reducible exact tt
    refine CallS.g [5] (hadd) (R0 ?_);try with_reducible exact tt
    refine A10 ewj ?_;try with_reducible exact tt
    refine ⟨j+1,5,5,⟨by omega,by omega⟩,by omega,by omega,?_,?_⟩
    ·simp [swT,swH,sw,Ob.sw,V.ren,V.rens]
    ·simp [swT,swH,sw,Ob.sw,V.ren,V.rens]
  ·have h2:j=BL.length:=by omega
   subst h2
   rw [←hnx]
   refine A00 ?_;try with_reducible exact tt
   refine A10 ewi ?_;try with_reducible exact tt
   refine ⟨i+1,5,5,⟨by omega,by omega⟩,by omega,by omega,?_,?_⟩
   ·simp [swT,swH,sw,Ob.sw,V.ren,V.rens]
   ·simp [swT,swH,sw,Ob.sw,V.ren,V.rens]
 ·have h2:i=AL.length:=by omega
  subst h2
  refine A00 ?_;try with_reducible exact tt
  refine CallS.g [5,0] (hti) (R0 ?_);try with_reducible exact tt
  done
end
section
open Go.RowKit
def grB (D C:Nat) (q:Rat):Bool:=(q*(D:Rat)).den==1&&decide (0≤(q*(D:Rat)).num)&&decide ((q*(D:Rat)).num.toNat≤C*D)
theorem o_13x {D C:Nat} {q:Rat} (h:grB D C q=true):Gr D C q:=by
 unfold grB at h
 simp only [Bool.and_eq_true,beq_iff_eq,decide_eq_true_eq] at h
 obtain ⟨⟨h1,h2⟩,h3⟩:=h
 refine ⟨(q*(D:Rat)).num.toNat,?_,h3⟩
 generalize q*(D:Rat)=y at *
 have h4:((y.num.toNat:Nat):Int)=y.num:=Int.toNat_of_nonneg h2
 refine Rat.ext ?_ ?_
 ·rw [Rat.num_natCast,h4]
 ·rw [Rat.den_natCast,h1]
def valAll:Bool:=[(1,1),(1,2),(1,3),(1,4),(2,0),(2,1),(3,1),(3,2)].all fun z=>(List.range 16).all fun x=>grB (12^15) (2^24) (valC z.1 z.2 x)
theorem o_13y:valAll=true:=by kernel_rfl
theorem o_13z {k a w:Nat} (h:GoodS k a w) (x:Nat) (hx:x≤15):Gr (12^15) (2^24) (valC k a x):=by
 have h1:=o_13y
 unfold valAll at h1
 rw [List.all_eq_true] at h1
 have h2:=h1 (k,a) (by
  rcases h.1 with ⟨rfl,h2,h3⟩ | ⟨rfl,h2⟩ | ⟨rfl,h2,h3⟩
  ·have:a=1∨a=2∨a=3∨a=4:=by omega
   rcases this with rfl | rfl | rfl | rfl<;>simp
  ·have:a=0∨a=1:=by omega
   rcases this with rfl | rfl<;>simp
  ·have:a=1∨a=2:=by omega
   rcases this with rfl | rfl<;>simp)
 rw [List.all_eq_true] at h2
 exact o_13x (h2 x (List.mem_range.2 (by omega)))
theorem o_140 {D B:Nat} {g:St→Rat} {L:Sp} (h:∀p∈L,Gr D B (p.2*g p.1)):∀i,i≤L.length→Gr D (i*B) (sumQ g L i)
 | 0,_=>by rw [Nat.zero_mul];exact Gr.zero _ _
 | i+1,hi=>by
  rw [o_127 g L i hi,Nat.add_mul,Nat.one_mul]
  exact (o_140 h i (by omega)).add (h _ (List.getElem_mem hi))
theorem o_141 {D B:Nat} {x y:Rat} (h:Gr D B x) (hy:y=0∨y=1):Gr D B (x*y):=by
 rcases hy with rfl | rfl
 ·rw [Rat.mul_zero];exact Gr.zero _ _
 ·rw [Rat.mul_one];exact h
end
section
open Go.RowKit
structure LsOK (k a w:Nat) (L:Sp) (D C E V:Nat):Prop where
 len:L.length≤1000
 one:exQ (fun _=>1) L=1
 dp:0<D
 cp:1≤C
 ep:0<E
 vp:1≤V
 sd:size D≤220
 sc:size C≤70
 se:size E≤2
 sv:size V≤2
 well:∀p∈L,WellR k a w p.1.1 p.1.2.1 p.1.2.2
 gr:∀p∈L,Gr D C p.2
 vg:∀p∈L,Gr E V (vlQ k a w p.1)
theorem Gr.nn {D B:Nat} {q:Rat} (hD:0<D) (h:Gr D B q):0≤q:=by
 obtain ⟨z,h1,-⟩:=h
 have hp:(0:Rat)<(D:Rat):=by exact_mod_cast hD
 apply Classical.byContradiction
 intro hn
 have hz:(0:Rat)≤(z:Rat):=by exact_mod_cast Nat.zero_le z
 have:=Rat.mul_lt_mul_of_pos_right (Rat.not_le.1 hn) hp
 grind
theorem LsOK.nn {k a w:Nat} {L:Sp} {D C E V:Nat} (h:LsOK k a w L D C E V):∀p∈L,0≤p.2:=fun p hp=>(h.gr p hp).nn h.dp
theorem o_142 {X Y i:Nat} {q:Rat} (hX:0<X) (hY:1≤Y) (sX:size X≤450) (sY:size Y≤200) (hi:i≤1000) (hq:Gr X (i*Y) q):RS q 1000:=by
 refine (hq.le (C:=1000*Y) (Nat.mul_le_mul_right _ hi)).rs hX (Nat.mul_pos (by decide) hY) ?_
 have a1:=o_om (1000*Y) X
 have a2:=o_om 1000 Y
 have s0:size 1000≤1:=o_mr (by decide)
 omega
theorem o_143 {X Y:Nat} {q:Rat} (hX:0<X) (hY:1≤Y) (sX:size X≤450) (sY:size Y≤200) (hq:Gr X Y q):RS q 1000:=o_142 hX hY sX sY (show 1≤1000 by omega) (by rw [Nat.one_mul];exact hq)
theorem LsOK.tail {k a w:Nat} {L:Sp} {D C E V:Nat} (h:LsOK k a w L D C E V):TailRS k a w L:=by
 have g1:∀p∈L,Gr (D*E) (C*V) (p.2*vlQ k a w p.1):=fun p hp=>(h.gr p hp).mul (h.vg p hp)
 have g2:∀p∈L,Gr (D*(E*E)) (C*(V*V)) (p.2*vvQ k a w p.1):=fun p hp=>(h.gr p hp).mul ((h.vg p hp).mul (h.vg p hp))
 have g3:∀p∈L,Gr D C (p.2*fulI p.1):=fun p hp=>o_141 (h.gr p hp) (by unfold fulI;split<;>simp)
 have s1:=o_om D E
 have s2:=o_om C V
 have s3:=o_om E E
 have s4:=o_om V V
 have s5:=o_om D (E*E)
 have s6:=o_om C (V*V)
 have sD:=h.sd
 have sC:=h.sc
 have sE:=h.se
 have sV:=h.sv
 have dp:=h.dp
 have cp:=h.cp
 have ep:=h.ep
 have vp:=h.vp
 have hl:=h.len
 refine ⟨by omega,h.well,fun p hp=>⟨(o_143 dp cp (by omega) (by omega) (h.gr p hp)).le (by omega),(o_143 ep vp (by omega) (by omega) (h.vg p hp)).le (by omega),(o_143 (Nat.mul_pos ep ep) (Nat.mul_pos vp vp) (by omega) (by omega) ((h.vg p hp).mul (h.vg p hp))).le (by omega),(o_143 (Nat.mul_pos dp ep) (Nat.mul_pos cp vp) (by omega) (by omega) (g1 p hp)).le (by omega),(o_143 (Nat.mul_pos dp (Nat.mul_pos ep ep)) (Nat.mul_pos cp (Nat.mul_pos vp vp)) (by omega) (by omega) (g2 p hp)).le (by omega)⟩,fun i hi=>⟨?_,?_,?_⟩,?_⟩
 ·exact o_142 (Nat.mul_pos dp ep) (Nat.mul_pos cp vp) (by omega) (by omega) (by omega) (o_140 g1 i hi)
 ·exact o_142 (Nat.mul_pos dp (Nat.mul_pos ep ep)) (Nat.mul_pos cp (Nat.mul_pos vp vp)) (by omega) (by omega) (by omega) (o_140 g2 i hi)
 ·exact o_142 dp cp (by omega) (by omega) (by omega) (o_140 g3 i hi)
 ·rw [←o_128]
  have hg:=(o_140 g1 L.length (Nat.le_refl _)).le (C:=1000*(C*V)) (Nat.mul_le_mul_right _ (by omega))
  have s7:=o_om 1000 (C*V)
  have s8:=o_om (D*E) (D*E)
  have s9:=o_om (1000*(C*V)) (1000*(C*V))
  have s0:size 1000≤1:=o_mr (by decide)
  exact o_143 (Nat.mul_pos (Nat.mul_pos dp ep) (Nat.mul_pos dp ep)) (Nat.mul_pos (Nat.mul_pos (by decide) (Nat.mul_pos cp vp)) (Nat.mul_pos (by decide) (Nat.mul_pos cp vp))) (by omega) (by omega) (hg.mul hg)
theorem o_144 {n V:Nat} (h:n≤V):Gr 1 V ((n:Nat):Rat):=⟨n,by rw [show ((1:Nat):Rat)=1 from rfl,Rat.mul_one],by omega⟩
end
section
open Go.RowKit
end
section
open Go.RowKit
end
section
open Go.RowKit
end
section
open Go.RowKit
end
section
open Go.RowKit
theorem o_145 (bs:ByteArray):∀(n i:Nat) (r:List UInt8),bs.size-i=n→(ByteArray.toList.loop bs i r).length=r.length+n
 | 0,i,r,h=>by
  rw [ByteArray.toList.loop,if_neg (by omega)];simp
 | n+1,i,r,h=>by
  rw [ByteArray.toList.loop,if_pos (by omega),o_145 bs n (i+1) _ (by omega)]
  simp;omega
theorem o_146 (bs:ByteArray):bs.toList.length=bs.size:=by
 unfold ByteArray.toList
 rw [o_145 bs bs.size 0 [] (by omega)];simp
theorem o_147 (n:Nat):1≤ndig n:=by rw [ndig];split<;>omega
theorem o_148:((List.range 9).all fun n=>!((txt (n+1)).toList==[48]))=true:=by kernel_rfl
theorem o_149 (n:Nat) (h:n≠0):(txt n).toList≠[48]:=fun e=>by
 have h1:=o_146 (txt n)
 rw [e,o_v8] at h1
 have h2:n<10:=by
  rcases Nat.lt_or_ge n 10 with h3 | h3
  ·exact h3
  ·have:=o_147 (n/10)
   rw [ndig,if_neg (by omega)] at h1
   simp at h1
   omega
 have h3:=o_148
 rw [List.all_eq_true] at h3
 have h4:=h3 (n-1) (List.mem_range.2 (by omega))
 rw [show n-1+1=n by omega,e] at h4
 cases h4
theorem o_14a (z:Int):1≤(txtZ z).size:=by
 unfold txtZ
 split
 ·rw [ByteArray.size_append,o_v8];have:=o_147 z.natAbs;omega
 ·rw [o_v8];exact o_147 _
theorem o_14b {q:Rat} (h:q≠0):(txtQ q).toList≠[48]:=fun e=>by
 have h1:=o_146 (txtQ q)
 rw [e] at h1
 unfold txtQ at e h1
 split at h1
 ·rename_i hd
  rw [if_pos hd] at e
  have hz:q.num≠0:=fun hz=>h (Rat.num_eq_zero.1 hz)
  unfold txtZ at e h1
  split at h1
  ·rw [ByteArray.size_append,o_v8] at h1
   have:=o_147 q.num.natAbs
   have h2:(⟨#[45]⟩:ByteArray).size=1:=rfl
   simp at h1
   omega
  ·rename_i hneg
   rw [if_neg hneg] at e
   exact o_149 _ (by omega) e
 ·have h3:=o_14a q.num
  have h4:=o_147 q.den
  rw [ByteArray.size_append,ByteArray.size_append,o_v8] at h1
  simp at h1
  omega
end
section
open Go.RowKit
end
section
open Go.RowKit
theorem o_14c (n:Nat):size (2^n)≤n/64+1:=by
 refine o_jt (o_k9 _) ?_
 rw [o_k7,show 18446744073709551616=2^64 from rfl,←Nat.pow_mul]
 exact Nat.pow_lt_pow_right (by decide) (by omega)
theorem o_14d {A B:Nat} (h1:1≤A) (h2:A≤8) (h3:B≤3):ThS A B where
 a1:=h1
 n:=Nat.le_trans (Nat.mul_le_mul (show A+1≤9 by omega) (show B+1≤4 by omega)) (by decide)
 b:=by omega
 a:=by omega
 gd:=⟨h1,by omega,by omega⟩
theorem o_14e {A B:Nat} {s:St}:vlQ 4 A B s=((s.1*2^s.2.1:Nat):Rat):=by
 unfold vlQ valR
 rw [if_pos rfl]
theorem o_14f {A B:Nat} (h1:1≤A) (h2:A≤8) (h3:B≤3) {L:Sp} {e:Nat} (hL:SpOK e (okT A B) L) (he:e≤10000):LsOK 4 A B (atQ L) (2^e) 1 1 1000:=by
 have hl:=o_13j hL.uq hL.ky
 have h4:(A+1)*((B+1)*2)≤9*(4*2):=Nat.mul_le_mul (by omega) (Nat.mul_le_mul_right _ (by omega))
 refine ⟨Nat.le_trans (o_yt _) (by omega),hL.at.one,Nat.two_pow_pos _,by decide,by decide,by decide,by have:=o_14c e;omega,Nat.le_trans (o_mr (by decide)) (by decide),Nat.le_trans (o_mr (by decide)) (by decide),Nat.le_trans (o_mr (by decide)) (by decide),fun p hp=>o_13o (hL.at.ky p hp),hL.at.gr,fun p hp=>?_⟩
 obtain ⟨a1,a2,-⟩:=hL.at.ky p hp
 rw [o_14e]
 refine o_144 ?_
 have:p.1.1*2^p.1.2.1≤8*2^3:=Nat.mul_le_mul (by omega) (Nat.pow_le_pow_right (by decide) (by omega))
 omega
end
section
open Go.RowKit
theorem o_14g {G a b:Nat} {q:Rat} {C:Nat} (h:Gr (G^a) C q) (hab:a≤b):Gr (G^b) C q:=by
 have:=h.scale (G^(b-a))
 rwa [←Nat.pow_add,show a+(b-a)=b by omega] at this
theorem o_14h {k a w:Nat} (h:GoodS k a w) {A B:Sp} {DA CA DB CB:Nat} (okA:oklQ (topC w) A) (okB:oklQ (topC w) B) (uA:Uq A) (uB:Uq B) (oA:exQ (fun _=>1) A=1) (oB:exQ (fun _=>1) B=1) (dA:0<DA) (cA:1≤CA) (dB:0<DB) (cB:1≤CB) (zA:size DA≤20) (yA:size CA≤20) (zB:size DB≤20) (yB:size CB≤20) (gA:∀p∈A,Gr DA CA p.2) (gB:∀p∈B,Gr DB CB p.2) :
  ∃G M,MrgOK k a w (mgQ (topC w) k a) A B G M 17 17∧0<G∧1≤M∧size G≤60∧size M≤60∧(∀p∈mrgG (mgQ (topC w) k a) A B,Gr G (4913*M) p.2)∧oklQ (topC w) (mrgG (mgQ (topC w) k a) A B):=by
 have h8:2^w≤16:=Nat.pow_le_pow_right (n:=2) (by omega) h.2.2
 have h7:topC w≤15:=by unfold topC;omega
 obtain ⟨G0,hG,hG63,hc,hr⟩:=o_zq h
 have lA:A.length≤17:=Nat.le_trans (o_10j uA okA) (by omega)
 have lB:B.length≤17:=Nat.le_trans (o_10j uB okB) (by omega)
 have qq:∀L:Sp,exQ (fun _=>1) L=1→1≤L.length:=fun L hL=>by
  rcases L with _ | ⟨p,L⟩
  ·exact absurd hL (by decide)
  ·simp
 have sG:size G0≤1:=o_mr (Nat.lt_of_le_of_lt hG63 (by decide))
 have s24:size 80≤1:=o_mr (by decide)
 have pG:=fun n=>o_z9 G0 sG n
 have p24:=fun n=>o_z9 80 s24 n
 obtain ⟨G,hGe⟩:∃G,G=DA*DB*G0^16:=⟨_,rfl⟩
 obtain ⟨M,hMe⟩:∃M,M=CA*CB*80^16:=⟨_,rfl⟩
 have Gp:0<G:=by rw [hGe];exact Nat.mul_pos (Nat.mul_pos dA dB) (Nat.pow_pos hG)
 have Mp:1≤M:=by rw [hMe];exact Nat.mul_pos (Nat.mul_pos cA cB) (Nat.pow_pos (by decide))
 have Gs:size G≤60:=by
  rw [hGe]
  have:=o_om (DA*DB) (G0^16);have:=o_om DA DB;have:=pG 16;omega
 have Ms:size M≤60:=by
  rw [hMe]
  have:=o_om (CA*CB) (80^16);have:=o_om CA CB;have:=p24 16;omega
 have mgm:∀x∈A,∀y∈B,∀p∈atQ (mgQ (topC w) k a x.1 y.1),Gr (G0^16) (80^16) p.2:=fun x hx y hy p hp=>by
  have y15:y.1.1≤15:=by have:=(okB y hy).1.1;omega
  have h1:=mg_gr h hr (okA x hx).1 (o:=y.1) y15 p (List.mem_filter.1 ((o_w4 _).mem_iff.1 hp)).1
  rw [←Nat.pow_succ] at h1
  refine (o_14g h1 (by omega)).le ?_
  rw [Nat.mul_comm,←Nat.pow_succ]
  exact Nat.pow_le_pow_right (by decide) (by omega)
 have hgr:∀x∈A,∀y∈B,(∀p∈atQ (mgQ (topC w) k a x.1 y.1),Gr G M (x.2*y.2*p.2))∧(atQ (mgQ (topC w) k a x.1 y.1)).length≤17:=fun x hx y hy=>by
  refine ⟨fun p hp=>?_,Nat.le_trans (o_yt _) (Nat.le_trans (o_10j (mg_uq _ _) (mg_ok h (okA x hx).1 (okB y hy).1)) (by omega))⟩
  rw [hGe,hMe]
  exact ((gA x hx).mul (gB y hy)).mul (mgm x hx y hy p hp)
 have hgo:=o_122 (mg:=mgQ (topC w) k a) (L:=17) lB hgr A.length (Nat.le_refl _)
 rw [o_120] at hgo
 have e81:A.length*(17*17)*M≤4913*M:=Nat.mul_le_mul_right M (by omega)
 have hout:∀p∈mrgG (mgQ (topC w) k a) A B,Gr G (4913*M) p.2:=fun p hp=>(hgo p hp).le e81
 have sz1:size (100000*M*G)≤1000:=by
  have:=o_om (100000*M) G;have:=o_om 100000 M
  have:size 100000≤1:=o_mr (by decide)
  omega
 have hu:Uq (mrgG (mgQ (topC w) k a) A B):=o_12q A B
 have hone:exQ (fun _=>1) (mrgG (mgQ (topC w) k a) A B)=1:=o_12s oA oB fun x _ y _=>o_10k _ _
 have hokO:oklQ (topC w) (mrgG (mgQ (topC w) k a) A B):=fun p hp =>
  ⟨o_12t (R:=okQ (topC w)) (fun x hx y hy=>fun q hq=>(mg_ok h (okA x hx).1 (okB y hy).1 q hq).1) p hp,(hout p hp).nn Gp⟩
 have lO:=o_10j hu hokO
 have rsX:∀{D C:Nat} {q:Rat},0<D→1≤C→size D≤20→size C≤20→Gr D C q→RS q 40000:=fun {D C q} h1 h2 h3 h4 h5=>h5.rs h1 h2 (by have:=o_om C D;omega)
 refine ⟨G,M,⟨Gp,Mp,by omega,by omega,by omega,qq A oA,by omega,qq B oB,lB,by omega,fun x hx=>⟨(okA x hx).2,rsX dA cA zA yA (gA x hx)⟩,fun y hy=>⟨(okB y hy).2,rsX dB cB zB yB (gB y hy)⟩,hgr,fun x hx y hy p hp=>?_,?_,?_,fun x hx y hy=>⟨o_10d h x.1 y.1 (okA x hx).1 (okB y hy).1.1 (by have:=(okB y hy).1.1;omega),o_10n h (by have:=(okB y hy).1.1;omega) (okA x hx).1 (okB y hy).1⟩,?_⟩,Gp,Mp,Gs,Ms,hout,hokO⟩
 ·refine (mgm x hx y hy p hp).rs (Nat.pow_pos hG) (Nat.pow_pos (by decide)) ?_
  have:=o_om (80^16) (G0^16);have:=pG 16;have:=p24 16;omega
 ·refine Nat.le_trans (o_l1 ?_) (Nat.le_trans sz1 (by omega))
  refine Nat.mul_le_mul_right G (Nat.mul_le_mul_right M ?_)
  omega
 ·have hl:((A++B).map (·.1)).length=A.length+B.length:=by simp
  have:=o_10c (.inr ⟨by have:=h.1;omega,o_rt h⟩) (by have:=h.1;omega) h.2.2 ((A++B).map (·.1)) (by omega) (fun s hs=>?_)
  ·rwa [hl] at this
  ·obtain ⟨p,hp,rfl⟩:=List.mem_map.1 hs
   rcases List.mem_append.1 hp with hp | hp
   ·exact wellQ h (okA p hp).1
   ·exact wellQ h (okB p hp).1
 ·refine o_yg _ hu (o_10l hone) (Nat.le_trans lO (by omega)) fun p hp=>?_
  refine (hout p hp).rs Gp (Nat.mul_pos (by decide) Mp) (Nat.le_trans (o_l1 ?_) (Nat.le_trans sz1 (by omega)))
  exact Nat.mul_le_mul_right G (Nat.mul_le_mul_right M (by omega))
theorem o_14i {A B:Nat} (h:ThS A B) (h4:(A+1)*(B+1)≤128) (l:List St) (hl:l.length≤1000000) (hw:∀s∈l,okT A B s):Eqn Tryz.prog o_89 [.d (parD 4 A B),.d (.sl l.length (stsD l))] [] (.d (.int .i64 0)) []:=by
 refine Eqn.pure o_8b Plain.ok ?_
 have h1:=o_10b h.good l hl fun s hs=>o_13o (hw s hs)
 have h2:=o_13n h
 generalize (A+1)*(B+1)=W at *
 have e1:IntKind.i64.wrap (4*(W:Int))=4*(W:Int):=w64 (by omega) (by omega)
 have e2:¬512<4*(W:Int):=by omega
 refine cc (c':=?z325) ?_ ?_
 case refine_1=>cbv<;>exact rfl
 try simp only [parD] at h1 h2 ⊢
 refine A00 ?_;try with_reducible exact tt
 refine CallS.pu (h1) (R0 ?_);try with_reducible exact tt
 refine A00 ?_;try with_reducible exact tt
 refine CallS.pu (h2) (R1 (fs e1 e2) ?_);try with_reducible exact tt
 refine A10 (fs e1 e2) ?_;try with_reducible exact tt
theorem o_14j {A B:Nat} (h1:1≤A) (h2:A≤8) (h3:B≤3) {LA LB:Sp} {e f:Nat} (hA:SpOK e (okT A B) LA) (hB:SpOK f (okT A B) LB) (he:e≤1000) (hf:f≤1000) :
  MrgOK 4 A B (mgT A B) LA LB (2^(e+f+100)) 1 72 72∧SpOK (e+f+100) (okT A B) (mrgG (mgT A B) LA LB):=by
 have hS:=o_14d h1 h2 h3
 have hJ:(A+1)*((B+1)*2)≤9*(4*2):=Nat.mul_le_mul (by omega) (Nat.mul_le_mul_right _ (by omega))
 have lA:=o_13j hA.uq hA.ky
 have lB:=o_13j hB.uq hB.ky
 have qq:∀L:Sp,exQ (fun _=>1) L=1→1≤L.length:=fun L hL=>by
  rcases L with _ | ⟨p,L⟩
  ·exact absurd hL (by decide)
  ·simp
 have hmg:∀x∈LA,∀y∈LB,SpOK 100 (okT A B) (mgT A B x.1 y.1):=fun x hx y hy=>by
  refine (SpOK.mgT (hA.ky x hx) (hB.ky y hy)).mono ?_ fun _ h=>h
  have a1:B*A≤3*8:=Nat.mul_le_mul h3 h2
  have a2:(A+A)*B≤16*3:=Nat.mul_le_mul (by omega) h3
  omega
 have hgr:∀x∈LA,∀y∈LB,(∀p∈atQ (mgT A B x.1 y.1),Gr (2^(e+f+100)) 1 (x.2*y.2*p.2))∧(atQ (mgT A B x.1 y.1)).length≤72:=fun x hx y hy=>by
  have hm:=hmg x hx y hy
  refine ⟨fun p hp=>?_,Nat.le_trans (o_yt _) (Nat.le_trans (o_13j hm.uq hm.ky) hJ)⟩
  have:=((hA.gr x hx).mul (hB.gr y hy)).mul (hm.at.gr p hp)
  rwa [←Nat.pow_add,←Nat.pow_add] at this
 have hout:SpOK (e+f+100) (okT A B) (mrgG (mgT A B) LA LB):=by
  refine ⟨o_12q _ _,o_12s hA.one hB.one fun x hx y hy=>(hmg x hx y hy).one,?_,o_12t fun x hx y hy=>(hmg x hx y hy).ky⟩
  have hgi:∀x∈LA,∀y∈LB,∀p∈atQ (mgT A B x.1 y.1),Gi 100 p.2:=fun x hx y hy=>(hmg x hx y hy).at.gi
  have k1:∀x∈LA,∀(j:Nat) (out:Sp),j≤LB.length→(∀p∈out,Gi (e+f+100) p.2)→∀p∈inG (mgT A B) x LB out j,Gi (e+f+100) p.2:=by
   intro x hx j
   induction j with
   | zero=>intro out _ h p hp;exact h p (by simpa [inG] using hp)
   | succ j ih =>
    intro out hj h
    rw [o_11x _ x LB out j (by omega)]
    exact o_116 ((hA.gi x hx).mul (hB.gi _ (List.getElem_mem _))) (ih out (by omega) h) (hgi x hx _ (List.getElem_mem _))
  have k2:∀i,i≤LA.length→∀p∈outG (mgT A B) LA LB i,Gi (e+f+100) p.2:=by
   intro i
   induction i with
   | zero=>intro _ p hp;simp [outG] at hp
   | succ i ih =>
    intro hi
    rw [o_11z _ LA LB i hi]
    exact k1 _ (List.getElem_mem _) _ _ (Nat.le_refl _) (ih (by omega))
  rw [←o_120]
  exact k2 _ (Nat.le_refl _)
 have lO:=o_13j hout.uq hout.ky
 have hr:∀{L:Sp} {g:Nat},SpOK g (okT A B) L→g≤1000→∀p∈L,0≤p.2∧RS p.2 40000:=fun {L g} hL hg p hp=>⟨hL.nn p hp,(hL.gr p hp).rs (Nat.two_pow_pos _) (Nat.le_refl _) (by rw [Nat.one_mul];have:=o_13b g;omega)⟩
 refine ⟨⟨Nat.two_pow_pos _,by omega,by omega,by omega,by omega,qq LA hA.one,by omega,qq LB hB.one,by omega,by omega,hr hA he,hr hB hf,hgr,fun x hx y hy=>(hmg x hx y hy).at.rs (by omega),?_,?_,fun x hx y hy=>?_,?_⟩,hout⟩
 ·have a1:=o_om ((LA.length+2)*(72*72)*1) (2^(e+f+100))
  have a2:=o_13b (e+f+100)
  have a3:(LA.length+2)*(72*72)*1≤74*(72*72):=by rw [Nat.mul_one];exact Nat.mul_le_mul_right _ (by omega)
  have a4:size ((LA.length+2)*(72*72)*1)≤1:=o_mr (by omega)
  omega
 ·have hl:((LA++LB).map (·.1)).length=LA.length+LB.length:=by simp
  have:=o_14i hS (Nat.le_trans (Nat.mul_le_mul (show A+1≤9 by omega) (show B+1≤4 by omega)) (by omega)) ((LA++LB).map (·.1)) (by omega) (fun s hs=>?_)
  ·rwa [hl] at this
  ·obtain ⟨p,hp,rfl⟩:=List.mem_map.1 hs
   rcases List.mem_append.1 hp with hp | hp
   ·exact hA.ky p hp
   ·exact hB.ky p hp
 ·have hm:=hmg x hx y hy
  exact ⟨o_13w hS x.1 y.1 (hA.ky x hx) (hB.ky y hy),o_yg _ hm.uq hm.nz (Nat.le_trans (o_13j hm.uq hm.ky) (by omega)) (hm.rs (by omega))⟩
 ·exact o_yg _ hout.uq hout.nz (by omega) (hout.rs (by omega))
end
section
open Go.RowKit
theorem o_14k {x y:Rat} (h:x≤y):¬0<cmpQ x y:=by
 unfold cmpQ
 split
 ·decide
 ·rw [if_neg (Rat.not_lt.2 h)];decide
end
section
open Go.RowKit
theorem o_14l {a b:Rat} (h:a=b):a≤b:=h▸Rat.le_refl
theorem gr_le {D B:Nat} {q:Rat} (hD:0<D) (h:Gr D B q):q≤(B:Rat):=by
 obtain ⟨z,h1,h2⟩:=h
 have hp:(0:Rat)<(D:Rat):=by exact_mod_cast hD
 apply Classical.byContradiction
 intro hn
 have h3:=Rat.mul_lt_mul_of_pos_right (Rat.not_le.1 hn) hp
 rw [h1] at h3
 have h4:(z:Rat)≤((B*D:Nat):Rat):=by exact_mod_cast h2
 rw [Rat.natCast_mul] at h4
 exact absurd h3 (Rat.not_lt.2 h4)
theorem o_14m {K A B:Nat} (hsr:SmallR K A B) (n m:Nat) (hn:n≤3) (hm:m≤3):∃(LA LB LC:Sp) (D C E V:Nat),LsOK K A B LC D C E V∧1≤LC.length ∧
  Eqn Tryz.prog o_6x [.d (parD K A B),.d (.agg [.int .i64 0,.int .i64 0,.bool false]),.d (.int .i64 n)] [] (.tup [.d (.sl LA.length (spD rcD LA)),.d (.int .i64 0)]) [] ∧
  Eqn Tryz.prog o_6x [.d (parD K A B),.d (.agg [.int .i64 0,.int .i64 0,.bool false]),.d (.int .i64 m)] [] (.tup [.d (.sl LB.length (spD rcD LB)),.d (.int .i64 0)]) [] ∧
  Eqn Tryz.prog o_7o [.d (parD K A B),.d (.sl LA.length (spD rcD LA)),.d (.sl LB.length (spD rcD LB))] [] (.tup [.d (.sl LC.length (spD rcD LC)),.d (.int .i64 0)]) [] ∧
  exQ (vlQ K A B) LC≤((n+m:Nat):Rat)∧(exQ fulI LC=0→exQ (vlQ K A B) LC=((n+m:Nat):Rat)):=by
 have len1:∀L:Sp,exQ (fun _=>1) L=1→1≤L.length:=fun L hL=>by
  rcases L with _ | ⟨p,L⟩
  ·exact absurd hL (by decide)
  ·simp
 have hr0:∀i:Nat,(0:Rat)≤(i:Rat):=fun i=>by exact_mod_cast Nat.zero_le i
 have hr3:∀i:Nat,i≤3→(i:Rat)≤3:=fun i hi=>by
  have:(i:Rat)≤((3:Nat):Rat):=by exact_mod_cast hi
  exact this
 have n0:=hr0 n
 have m0:=hr0 m
 have n3:=hr3 n hn
 have m3:=hr3 m hm
 rw [Rat.natCast_add]
 rcases hsr with ⟨rfl,h1,h2,h3⟩ | ⟨hk,hG⟩
 ·have hs:okT A B (0,0,false):=⟨Nat.zero_le _,Nat.zero_le _,by simp⟩
  have hst:∀i,SpOK (i*(B+(A+1)*B)) (okT A B) (dstT A B (0,0,false) i):=fun i=>SpOK.of (fun t (ht:okT A B t)=>SpOK.stepT ht) hs i
  have he:∀i,i≤3→i*(B+(A+1)*B)≤90:=fun i hi=>Nat.le_trans (Nat.mul_le_mul hi (Nat.add_le_add h3 (Nat.mul_le_mul (show A+1≤9 by omega) h3))) (by decide)
  have hc:∀i,i≤3→(i+1)*((A+1)*(B+1))≤512:=fun i hi=>Nat.le_trans (Nat.mul_le_mul (show i+1≤4 by omega) (Nat.mul_le_mul (show A+1≤9 by omega) (show B+1≤4 by omega))) (by decide)
  have eN:=he n hn
  have eM:=he m hm
  obtain ⟨hmo,hout⟩:=o_14j h1 h2 h3 (hst n).at (hst m).at (by omega) (by omega)
  have hls:=o_14f h1 h2 h3 hout (by omega)
  have hV:vlQ 4 A B=vT:=funext fun s=>o_14e
  have hN:(((A+1)*2^B:Nat):Rat)≤1000:=by
   have:(A+1)*2^B≤1000:=Nat.le_trans (Nat.mul_le_mul (show A+1≤9 by omega) (Nat.pow_le_pow_right (by decide) h3)) (by decide)
   exact_mod_cast this
  have hN2:(((A+A)*2^B:Nat):Rat)≤3000:=by
   have:(A+A)*2^B≤3000:=Nat.le_trans (Nat.mul_le_mul (show A+A≤16 by omega) (Nat.pow_le_pow_right (by decide) h3)) (by decide)
   exact_mod_cast this
  have hmA:=o_137 (A:=A) (B:=B) (M:=3000) (N:=1000) n hN (by grind)
  have hmB:=o_137 (A:=A) (B:=B) (M:=3000) (N:=1000) m hN (by grind)
  obtain ⟨r1,r2⟩:=o_12v hmA hmB m0 (by grind) fun x hx y hy=>o_139 hN2 ((hst n).at.ky x hx) ((hst m).at.ky y hy)
  refine ⟨_,_,_,_,_,_,_,hls,len1 _ hout.at.one,o_13q (o_14d h1 h2 h3) (0,0,false) hs n (by omega) (hc n hn),o_13q (o_14d h1 h2 h3) (0,0,false) hs m (by omega) (hc m hm),o_125 hmo,?_,fun hz=>?_⟩
  ·rw [o_w5,hV];exact r1
  ·rw [o_w5,hV]
   rw [o_w5] at hz
   exact Rat.le_antisymm r1 (Rat.le_trans r2 (o_14l (HQ_ex hout.nn hz)))
 ·have hs:okQ (topC B) (0,0,false):=okz _
  have h8:2^B≤16:=Nat.pow_le_pow_right (n:=2) (by omega) hG.2.2
  have h7:topC B≤15:=by unfold topC;omega
  obtain ⟨c0,c1⟩:=o_zb hG
  obtain ⟨G0,hGp,hG63,hc⟩:=o_yj hG
  have sG:size G0≤1:=o_mr (Nat.lt_of_le_of_lt hG63 (by decide))
  have pG:=fun n=>o_z9 G0 sG n
  have p80:=fun n=>o_z9 80 (o_mr (by decide)) n
  have ok:=fun i=>o_wl (o_wp (c:=chP K A) c0 c1 hs i)
  have gr:=fun i=>fun p (hp:p∈atQ (dstQ K A B (0,0,false) i))=>o_10f h7 c0 c1 (fun x hx=>hc x (by omega)) hs i p (List.mem_filter.1 ((o_w4 _).mem_iff.1 hp)).1
  have on:∀i,exQ (fun _=>1) (atQ (dstQ K A B (0,0,false) i))=1:=fun i=>by rw [o_w5];exact o_wq _ _
  obtain ⟨G,M,hmo,Gp,Mp,Gs,Ms,hout,hok⟩:=o_14h hG (ok n) (ok m) (o_w7 (o_we _ _ n)) (o_w7 (o_we _ _ m)) (on n) (on m) (Nat.pow_pos hGp) (Nat.pow_pos (by decide)) (Nat.pow_pos hGp) (Nat.pow_pos (by decide)) (by have:=pG n;omega) (by have:=p80 n;omega) (by have:=pG m;omega) (by have:=p80 m;omega) (gr n) (gr m)
  have hone:exQ (fun _=>1) (mrgG (mgQ (topC B) K A) (atQ (dstQ K A B (0,0,false) n)) (atQ (dstQ K A B (0,0,false) m)))=1:=o_12s (on n) (on m) fun x _ y _=>o_10k _ _
  have hu:=o_12q (mg:=mgQ (topC B) K A) (atQ (dstQ K A B (0,0,false) n)) (atQ (dstQ K A B (0,0,false) m))
  have hl:=o_10j hu hok
  have hk4:¬K=4:=hk
  have hV:vlQ K A B=plQ (valC K A):=funext fun s=>by
   unfold vlQ valR plQ
   rw [if_neg hk4]
  have hvg:∀x,x≤topC B→Gr (12^15) (2^24) (valC K A x):=fun x hx=>o_13z hG x (by omega)
  have hN:∀x,x≤topC B→0≤valC K A x∧valC K A x≤((2^24:Nat):Rat):=fun x hx=>⟨(hvg x hx).nn (by decide),gr_le (by decide) (hvg x hx)⟩
  have hN2:((2^24:Nat):Rat)=16777216:=rfl
  rw [hN2] at hN
  have hls:LsOK K A B (atQ (mrgG (mgQ (topC B) K A) (atQ (dstQ K A B (0,0,false) n)) (atQ (dstQ K A B (0,0,false) m)))) G (4913*M) (12^15) (2^24):=by
   have ok2:=o_wl hok
   refine ⟨Nat.le_trans (o_yt _) (by omega),by rw [o_w5];exact hone,Gp,Nat.mul_pos (by decide) Mp,by decide,by decide,by omega,?_,Nat.le_trans (o_mr (by decide)) (by decide),Nat.le_trans (o_mr (by decide)) (by decide),fun p hp=>wellQ hG (ok2 p hp).1,fun p hp=>hout p (List.mem_filter.1 ((o_w4 _).mem_iff.1 hp)).1,fun p hp=>?_⟩
   ·have a1:=o_om 4913 M
    have a2:size 4913≤1:=o_mr (by decide)
    omega
   ·rw [hV];exact hvg _ (ok2 p hp).1.1
  have hmA:=o_130 hG hN (M:=40000000) n (by grind)
  have hmB:=o_130 hG hN (M:=40000000) m (by grind)
  obtain ⟨r1,r2⟩:=o_12v hmA hmB m0 (by grind) fun x hx y hy=>o_12z hG hN (M:=40000000) (by decide +kernel) ((ok n) x hx).1 ((ok m) y hy).1
  have w0:=wellQ hG hs
  refine ⟨_,_,_,_,_,_,_,hls,len1 _ hls.one,o_10h hG hG.2.2 (0,0,false) w0 hs n (by omega),o_10h hG hG.2.2 (0,0,false) w0 hs m (by omega),o_125 hmo,?_,fun hz=>?_⟩
  ·rw [o_w5,hV];exact r1
  ·rw [o_w5,hV]
   rw [o_w5] at hz
   exact Rat.le_antisymm r1 (Rat.le_trans r2 (o_14l (HQ_ex (fun p hp=>(hok p hp).2) hz)))
set_option maxHeartbeats 8000000 in
theorem o_14n (k a b n0 n1:Int):Eqn Tryz.prog o_6o [.d (parD k a b),.d (.agg [.int .i64 n0,.int .i64 n1])] [] (.d (.bool true)) []:=by
 refine Eqn.pure o_6q Plain.ok ?_
 obtain ⟨K,A,B,hsr,hsm⟩:=o_sl k a b
 obtain ⟨Y,T,F,hw,hs1⟩:=hsm 0 0 false
 obtain ⟨n,hn,hn3,-⟩:=o_r7 n0 3 (by omega)
 replace hn:bits BinOp.and IntKind.i64 n0 3=n:=hn
 obtain ⟨m,hm,hm3,-⟩:=o_r7 n1 3 (by omega)
 replace hm:bits BinOp.and IntKind.i64 n1 3=m:=hm
 have hwn:=o_si K A B
 obtain ⟨LA,LB,LC,D,C,E,V,hL,hlc,hofA,hofB,hmr,hle,hfu⟩:=o_14m hsr n m hn3 hm3
 have hg:=o_sh hsr
 have hrs:=hL.tail
 have hto:=o_12g hg LC hrs
 have hLl:=hL.len
 have hmr3:RS (exQ (vlQ K A B) LC) 100000:=by rw [←o_128];exact (hrs.s _ (Nat.le_refl _)).1.le (by omega)
 have hfr:RS (exQ fulI LC) 1000:=by rw [←o_128];exact (hrs.s _ (Nat.le_refl _)).2.2
 obtain ⟨nm,hnm⟩:∃nm,nm=n+m:=⟨_,rfl⟩
 have hnm6:nm≤6:=by omega
 have ew:IntKind.i64.wrap ((n:Int)+(m:Int))=(nm:Int):=by rw [w64 (by omega) (by omega)];omega
 rw [←hnm] at hle hfu
 have hnr:RS ((nm:Nat):Rat) 100000:=(o_144 (show nm≤15 by omega)).rs (by decide) (by decide) (by decide)
 have hno:=o_pq nm (by omega)
 have hcm:=o_p3 (exQ (vlQ K A B) LC) (nm:Rat) hmr3 hnr
 have q1:=o_14k hle
 have htx:=o_ve (exQ fulI LC) hfr
 have hz:(txtQ (exQ fulI LC)).toList=[48]→cmpQ (exQ (vlQ K A B) LC) (nm:Rat)=0:=fun h=>by
  have h0:exQ fulI LC=0:=Classical.byContradiction fun h1=>o_14b h1 h
  rw [hfu h0]
  unfold cmpQ;simp [Rat.lt_irrefl]
 unfold stD3 at hto
 generalize cmpQ (exQ (vlQ K A B) LC) (nm:Rat)=c at *
 generalize varQ K A B LC=VR at *
 generalize exQ (vlQ K A B) LC=ME at *
 generalize exQ fulI LC=FU at *
 obtain ⟨M1,M2,M3,hM⟩:∃M1 M2 M3,rcD ME=[M1,M2,M3]:=⟨_,_,_,rfl⟩
 obtain ⟨V1,V2,V3,hVR⟩:∃V1 V2 V3,rcD VR=[V1,V2,V3]:=⟨_,_,_,rfl⟩
 obtain ⟨F1,F2,F3,hF⟩:∃F1 F2 F3,rcD FU=[F1,F2,F3]:=⟨_,_,_,rfl⟩
 obtain ⟨N1,N2,N3,hN⟩:∃N1 N2 N3,rcD (nm:Rat)=[N1,N2,N3]:=⟨_,_,_,rfl⟩
 simp only [o_wt] at hno hcm htx
 rw [hM,hVR,hF] at hto
 rw [hM,hN] at hcm
 rw [hN] at hno
 rw [hF] at htx
 clear hM hVR hF hN hL hrs hmr3 hfr hfu hle
 have q2:c≤0:=by omega
 have hl0:¬(LC.length:Int)=0:=by omega
 have hl1:¬LC.length=0:=by omega
 have hl2:((LC.length:Int)==0)=false:=by rw [beq_eq_false_iff_ne];omega
 generalize txtQ FU=S1 at *
 generalize LC.length=lc at *
 refine cc (c':=?z327) ?_ ?_
 case refine_1=>cbv<;>exact rfl
 try simp only [parD,tsD] at hs1 hwn hofA hofB hmr hto ⊢
 generalize spD rcD LA=CA at *
 generalize spD rcD LB=CB at *
 generalize spD rcD LC=CC at *
 refine A00 ?_;try with_reducible exact tt
 refine CallS.pu (hs1) (R0 ?_);try with_reducible exact tt
 refine A00 ?_;try with_reducible exact tt
 refine CallS.pu (hwn) (R1 (fs hn hm) ?_);try with_reducible exact tt
 refine A10 (fs hn hm) ?_;try with_reducible exact tt
 refine CallS.pu (hofA) (R0 ?_);try with_reducible exact tt
 refine CallS.pu (hofB) (R0 ?_);try with_reducible exact tt
 refine CallS.pu (hmr) (R0 ?_);try with_reducible exact tt
 refine A00 ?_;try with_reducible exact tt
 refine CallS.pu (hto) (R0 ?_);try with_reducible exact tt
 refine A10 (fs hl0 (fs hl1 (fs hl2 ew))) ?_;try with_reducible exact tt
 refine CallS.pu (hno) (R0 ?_);try with_reducible exact tt
 refine CallS.pu (hcm) (R1 q2 ?_);try with_reducible exact tt
 by_cases h0:S1.toList=[48]
 ·have hc:=hz h0
  refine A10 q2 ?_;try with_reducible exact tt
  refine CallS.pu (htx) (R1 (fs h0 (fs hc q2)) ?_);try with_reducible exact tt
 ·have h1:(S1.toList==[48])=false:=beq_eq_false_iff_ne.2 h0
  refine A10 q2 ?_;try with_reducible exact tt
  refine CallS.pu (htx) (R1 (fs h0 (fs h1 q2)) ?_);try with_reducible exact tt
end
section
open Go.RowKit

theorem tn_walk {W:World} (ht:Tabs (memW W)) {k a b n0 n1:Int}:Calls Tryz.prog o_6o #[.agg #[.int .i64 k,.int .i64 a,.int .i64 b],.agg #[.int .i64 n0,.int .i64 n1]] W (fun e W'=>e = .returned (.bool true)∧Same W W') :=
 o_sn o_6q (o_14n k a b n0 n1) (V.reps_cons.2 ⟨o_so (by simp [Value.oneCell']) (by simp [D.reps_cons,D.rep_int]),V.reps_cons.2 ⟨o_so (by simp [Value.oneCell']) (by simp [D.reps_cons,D.rep_int]),V.reps_nil.2 rfl⟩⟩) ht
end
end Go.Proofs.YtjbcbbfhcbnncaaGreatDoor.Am
