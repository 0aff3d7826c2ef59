/- Parts of the proof: PmfV, PmfW, PmfY, PmfZ, PmfCa, PmfCb, PmfCc, PmfD, PmfE, PmfF, PmfCd, WtC, PtM, PtN, TailN, FalN, TailA, TailB, TailC, TailD, TailE, TailF, TailG, Mor3, Mor4, Mor5, TailH, TailI, FalA, PtA, PtB, PtC, PtD, TailJ, PmfEb, TailK, TailM2, TailT, TailO, FalB, WtD, WtE, WtW, WtX, WtY, WtZ, WtJ, WtK, WtL, PtH, WuA, PtE, PtF, PtG, FalC, TmnA, WuB, WuC, WuT, WxA, WxB, TxL. -/
import Derived.Test.YtidfejfgmlakpaaGreatPe
set_option linter.unusedVariables false
set_option linter.unusedSimpArgs false
set_option maxRecDepth 100000
namespace Go.Proofs.YtidfejfgmlakpaaGreat.Am
section
open Go.RowKit
theorem o_11c {top k i:Nat} {l:Sp} (hu:Uq l) (h:kyQ (reach top k i) l):l.length≤top+2:=by
 have h1:(l.map (·.1)).length≤((top,0,true)::(List.range (top+1)).map fun j=>(j,0,false):List St).length:=by
  refine List.Nodup.length_le_of_subset hu fun t ht=>?_
  obtain ⟨p,hp,rfl⟩:=List.mem_map.1 ht
  rcases h p hp with e | ⟨e,e1,e2,e3⟩
  ·rw [e];simp
  ·refine List.mem_cons_of_mem _ (List.mem_map.2 ⟨p.1.1,List.mem_range.2 (by omega),?_⟩)
   rw [←e]
 simpa using h1
theorem o_11d {G top:Nat} {c:Nat→Rat} (h7:top≤15) (h0:∀k,k<top→0≤c k) (h1:∀k,k<top→c k≤1) (hc:∀x,x<top→Gr G 1 (c x)) {s:St} (hs:okQ top s):∀n,∀p∈ofQ (stepQ top c) s n,Gr (G^n) (80^n) p.2
 | 0=>fun p hp=>by
  simp [ofQ] at hp;subst hp
  exact Gr.one _
 | n+1=>by
  have ih:=o_11d h7 h0 h1 hc hs n
  have hl:=o_11c (o_vz _ s n) (o_108 (c:=c) hs n)
  have hA:(atQ (ofQ (stepQ top c) s n)).length≤40:=Nat.le_trans (o_zw _) (by omega)
  have hm:∀p∈atQ (ofQ (stepQ top c) s n),p∈ofQ (stepQ top c) s n:=fun p hp=>(List.mem_filter.1 ((o_vn _).mem_iff.1 hp)).1
  have:=o_zs (D:=G^n) (E:=G) (B:=80^n) (J:=2) (next:=stepQ top c) (A:=atQ (ofQ (stepQ top c) s n)) (fun p hp=>ih p (hm p hp)) (fun p hp=>⟨o_zx hc p.1 (o_w9 h0 h1 hs n p (hm p hp)).1.1,Nat.le_trans (o_zw _) (o_zv _ _ _)⟩) _ (Nat.le_refl _)
  rw [o_zp] at this
  intro p hp
  rw [Nat.pow_succ]
  refine (this p hp).le ?_
  rw [Nat.pow_succ,Nat.mul_comm (80^n) 80]
  exact Nat.mul_le_mul_right _ (by omega)
theorem o_11e {G n:Nat} (hG:G≤2^63) (hn:n≤100):size (80*80^n*(G^n*G))≤100000∧size (80^n*G^n)≤100000:=by
 have h1:size G≤1:=o_md (Nat.lt_of_le_of_lt hG (by decide))
 have h2:size 80≤1:=o_md (by decide)
 have a1:=o_10a 80 h2 n
 have a2:=o_10a G h1 n
 have a3:=o_sk (80*80^n) (G^n*G)
 have a4:=o_sk 80 (80^n)
 have a5:=o_sk (G^n) G
 have a6:=o_sk (80^n) (G^n)
 omega
set_option maxHeartbeats 4000000 in
theorem o_11f {k a w:Nat} (h:GoodS k a w) (w3:w≤4) (s:St) (hw:WellR k a w s.1 s.2.1 s.2.2) (hs:okQ (topC w) s) (n:Nat) (hn:n≤15):Eqn Tryz.prog o_8d [.d (parD k a w),.d (.agg (stD s)),.d (.int .i64 n)] [] (.tup [.d (.sl (atQ (dstQ k a w s n)).length (spD rcD (atQ (dstQ k a w s n)))),.d (.int .i64 0)]) []:=by
 refine Eqn.pure o_8f Plain.ok ?_
 have hk4:k≠4:=by have:=h.1;omega
 have w4:=h.2.2
 have hg:GoodR k a w:=.inr ⟨hk4,o_tw h⟩
 have h15:topC w≤15:=by have:=Nat.pow_le_pow_right (n:=2) (by omega) h.2.2;unfold topC;omega
 have hwr:=o_103 hg s hw
 have hst:=o_104 (a:=a) hk4 (show w≤10 by omega)
 have hsu:=o_xc s
 obtain ⟨c0,c1⟩:=o_10c h
 obtain ⟨G,hG,hG63,hc⟩:=o_zm h
 have h16:2^w≤16:=Nat.pow_le_pow_right (n:=2) (by omega) w3
 have h7:topC w≤15:=by unfold topC;omega
 have hti:∀i,i≤14→Eqn Tryz.prog o_aa [.mp 0,.fn (.func o_ad) [.p 1 0]] [spO (dstQ k a w s i),PO k a w] (.mp 2) [spO (dstQ k a w s i),PO k a w,spO (dstQ k a w s (i+1))]:=fun i hi=>by
  have hl:=o_11c (o_vz _ s i) (o_108 (c:=chP k a) hs i)
  exact o_zz h (dstQ k a w s i) G (G^i) (80^i) (o_vz _ s i) (o_w9 c0 c1 hs i) (nz_of s i) (Nat.le_trans (List.length_filter_le _ _) (Nat.le_trans hl (by omega))) (Nat.le_trans hl (by omega)) (Nat.pow_pos hG) (Nat.pow_pos (by decide)) (o_11d h7 c0 c1 (fun x hx=>hc x (by omega)) hs i) hG hc (o_11e hG63 (by omega)).1
 have hat:Eqn Tryz.prog o_aj [.mp 0] [spO (dstQ k a w s n)] (.d (.sl (atQ (dstQ k a w s n)).length (spD rcD (atQ (dstQ k a w s n))))) [spO (dstQ k a w s n)]:=by
  have hl:=o_11c (o_vz _ s n) (o_108 (c:=chP k a) hs n)
  exact o_zf _ (o_vz _ s n) (nz_of s n) (Nat.le_trans (List.length_filter_le _ _) (Nat.le_trans hl (by omega))) (Nat.le_trans hl (by omega)) (fun p hp=>(o_11d h7 c0 c1 (fun x hx=>hc x (by omega)) hs n p hp).rs (Nat.pow_pos hG) (Nat.pow_pos (by decide)) (o_11e hG63 (by omega)).2)
 have hd0:dstQ k a w s 0=[(s,1)]:=rfl
 rw [←hd0] at hsu
 have e1:IntKind.i64.wrap ((n:Int)+1)=((n+1:Nat):Int):=by rw [w64 (by omega) (by omega)];omega
 obtain ⟨W,hW⟩:∃W,W=2^w:=⟨_,rfl⟩
 rw [←hW] at hst h16
 have hmul:(n+1)*W≤16*16:=Nat.mul_le_mul (by omega) h16
 have e2:IntKind.i64.wrap (((n+1:Nat):Int)*(W:Int))=(((n+1)*W:Nat):Int):=by rw [←Int.natCast_mul];exact w64 (by omega) (by omega)
 obtain ⟨M,hM⟩:∃M,M=(n+1)*W:=⟨_,rfl⟩
 rw [←hM] at e2 hmul
 obtain ⟨n1,hn1⟩:∃n1,n1=n+1:=⟨_,rfl⟩
 rw [←hn1] at e1 e2
 have g1:¬(n:Int)<0:=by omega
 have g2:¬(64:Int)<n:=by omega
 have g3:¬(512:Int)<M:=by omega
 have g4:¬512<M:=by omega
 have g5:¬64<n:=by omega
 generalize hA:atQ (dstQ k a w s n)=A at *
 refine cc (c':=?z209) ?_ ?_
 case refine_1=>cbv<;>exact rfl
 try simp only [stD,parD,spO,PO] at hwr hst hsu hti hat ⊢
 refine A00 ?_;try with_reducible exact tt
 refine CallS.pf 2 3 ⟨35,[.d (.int .i64 s.1),.d (.int .i64 s.2.1),.d (.bool s.2.2)]⟩ [.int .i64 s.1,.int .i64 s.2.1,.bool s.2.2] (hwr) (by first | rfl | (simp [g1,g2,g5];done)) (R1 (fs g1 (fs g2 g5)) ?_);try with_reducible exact tt
 refine A10 (fs g1 (fs g2 (fs g5 e1))) ?_;try with_reducible exact tt
 refine CallS.pu (hst) (R1 (fs e2 (fs g3 g4)) ?_);try with_reducible exact tt
 refine A10 (fs e2 (fs g3 g4)) ?_;try with_reducible exact tt
 refine CallS.nX (hsu) (R0 ?_);try with_reducible exact tt
 refine AW.loopG (α:=Nat) (fun i=>setS (List.replicate 43 .junk) [(3,.p 0 0),(9,.mp 3),(34,.d (.int .i64 n)),(35,.d (.int .i64 (i:Nat)))]) (fun i=>[some ⟨29,[.d (.int .i64 k),.d (.int .i64 a),.d (.int .i64 w)]⟩,none,none,some ⟨1000391,(spD rcD (dstQ k a w s i)).map .d⟩]) (fun i=>i≤n) (fun i=>n-i) 0 ?_ (Nat.zero_le _) ?_ ?_ ?_
 ·intro i hi;simp
 ·simp
 ·simp
 rintro i hi
 simp
 by_cases hi2:i<n
 ·have hi3:(i:Int)<n:=by omega
  have ew:IntKind.i64.wrap ((i:Int)+1)=((i+1:Nat):Int):=by rw [w64 (by omega) (by omega)];omega
  have ht:=hti i (by omega)
  refine A10 (fs hi2 hi3) ?_;try with_reducible exact tt
  refine CallS.g [3,0] (ht) (R1 ew ?_);try with_reducible exact tt
  refine A10 ew ?_;try with_reducible exact tt
  refine ⟨i+1,3,4,by omega,by omega,by omega,?_,?_⟩
  ·simp [swT,swH,sw,Ob.sw,V.ren,V.rens]
  ·simp [swT,swH,sw,Ob.sw,V.ren,V.rens]
 ·have h2:i=n:=by omega
  subst h2
  refine A00 ?_;try with_reducible exact tt
  refine CallS.g [3] (hat) (R0 ?_);try with_reducible exact tt
  done
end
section
open Go.RowKit
theorem o_11g {top:Nat} {t:St} (h:okQ top t):reach top 0 top t:=by
 obtain ⟨a,b,f⟩:=t
 obtain ⟨h1,h2,h3⟩:=h
 simp only at h1 h2 h3
 subst h2
 cases f with
 | false=>exact .inr ⟨rfl,Nat.zero_le _,by simp only;omega,h1⟩
 | true=>left;rw [h3 rfl]
theorem o_11h {top:Nat} {l:Sp} (hu:Uq l) (h:oklQ top l):l.length≤top+2:=o_11c hu (k:=0) (i:=top) fun p hp=>o_11g (h p hp).1
theorem mg_uq {top k a:Nat} (s o:St):Uq (mgQ top k a s o):=o_vx _ _
theorem o_11i {top k a:Nat} (s o:St):exQ (fun _=>1) (mgQ top k a s o)=1:=by
 unfold mgQ
 rw [o_vy]
 have:(fun t=>exQ (fun _=>(1:Rat)) (fullQ o.2.2 t))=fun _=>1:=by
  funext t
  unfold fullQ
  simp only [exQ];grind
 rw [this,o_10x]
theorem o_11j {l:Sp} (h2:exQ (fun _=>1) l=1):nzQ l≠[]:=by
 intro h
 have h3:=o_vh (fun _=>(1:Rat)) l
 rw [show l.filter (fun p=>decide (p.2≠0))=nzQ l from rfl,h] at h3
 rw [h2] at h3
 exact absurd h3 (by decide)
theorem mg_nz {top k a:Nat} (s o:St):nzQ (mgQ top k a s o)≠[]:=o_11j (o_11i s o)
theorem o_11k {next:St→Sp} {l:Sp} (hn:∀p∈l,∀q∈next p.1,0≤q.2) (h:∀p∈l,0≤p.2):∀p∈timesQ next l,0≤p.2:=by
 have hget:∀(l:Sp) (s:St),(∀p∈l,0≤p.2)→0≤getQ l s:=by
  intro l s
  induction l with
  | nil=>intro _;exact Rat.le_refl
  | cons p l ih =>
   intro h
   unfold getQ
   split
   ·exact h p (by simp)
   ·exact ih fun q hq=>h q (by simp [hq])
 have hin:∀(q:Rat) (k out:Sp),0≤q→(∀p∈out,0≤p.2)→(∀p∈k,0≤p.2)→∀p∈innQ q out k,0≤p.2:=by
  intro q k
  induction k with
  | nil=>intro out _ h _;exact h
  | cons b k ih =>
   intro out hq ho hk
   refine ih (addQ out b.1 (q*b.2)) hq (fun p hp=>?_) fun p hp=>hk p (by simp [hp])
   rcases o_w2 hp with hp | rfl
   ·exact ho p hp
   ·have h1:=hget out b.1 ho
    have h2:=Rat.mul_nonneg hq (hk b (by simp))
    show 0≤getQ out b.1+q*b.2
    grind
 have key:∀(k out:Sp),(∀p∈out,0≤p.2)→(∀p∈k,0≤p.2∧∀q∈next p.1,0≤q.2)→∀p∈k.foldl (fun out a=>innQ a.2 out (atQ (next a.1))) out,0≤p.2:=by
  intro k
  induction k with
  | nil=>intro out h _;exact h
  | cons a k ih =>
   intro out ho hk
   obtain ⟨h1,h2⟩:=hk a (by simp)
   exact ih _ (hin _ _ _ h1 ho fun p hp=>h2 p (List.mem_filter.1 ((o_vn _).mem_iff.1 hp)).1) fun p hp=>hk p (by simp [hp])
 refine key _ _ (fun p hp=>by cases hp) fun p hp=>?_
 have hp':=(List.mem_filter.1 ((o_vn l).mem_iff.1 hp)).1
 exact ⟨h p hp',hn p hp'⟩
theorem mg_ok {k a w:Nat} (h:GoodS k a w) {s o:St} (hs:okQ (topC w) s) (ho:okQ (topC w) o):oklQ (topC w) (mgQ (topC w) k a s o):=by
 have hup:=cl_up h hs o.1 ho.1
 have h1:kyQ (okQ (topC w)) (mgQ (topC w) k a s o):=by
  refine o_10w (P:=fun t=>okQ (topC w) t∧o.1≤t.1) (fun t ht p hp=>?_) hup
  have hp1:p∈fullQ o.2.2 t:=(List.mem_filter.1 hp).1
  simp [fullQ] at hp1
  subst hp1
  obtain ⟨⟨a1,a2,a3⟩,a4⟩:=ht
  refine ⟨a1,a2,fun hf=>?_⟩
  simp only [Bool.or_eq_true] at hf
  rcases hf with hf | hf
  ·exact a3 hf
  ·have:=ho.2.2 hf
   show t.1=topC w
   omega
 have h2:∀p∈mgQ (topC w) k a s o,0≤p.2:=o_11k (fun p hp q hq=>by
  simp [fullQ] at hq;subst hq
  exact (by decide:(0:Rat)≤1)) fun p hp=>(cl_ok h hs o.1 p hp).2
 exact fun p hp=>⟨h1 p hp,h2 p hp⟩
theorem mg_gr {k a w G:Nat} (h:GoodS k a w) (hc:∀r x,x≤15→Gr G 1 (ratC k a r x)) {s o:St} (hs:okQ (topC w) s) (ho:o.1≤15):∀p∈mgQ (topC w) k a s o,Gr (G^o.1*G) (80*80^o.1) p.2:=by
 have hl:=o_109 (cl_uq s o.1) (o_10y (k:=k) (a:=a) hs o.1)
 have hA:(atQ (clQ (topC w) k a s o.1)).length≤40:=Nat.le_trans (o_zw _) (by omega)
 have hm:∀p∈atQ (clQ (topC w) k a s o.1),p∈clQ (topC w) k a s o.1:=fun p hp=>(List.mem_filter.1 ((o_vn _).mem_iff.1 hp)).1
 have:=o_zs (D:=G^o.1) (E:=G) (B:=80^o.1) (J:=2) (next:=fullQ o.2.2) (A:=atQ (clQ (topC w) k a s o.1)) (fun p hp=>cl_gr h hc hs o.1 (by omega) p (hm p hp)) (fun p hp=>⟨(o_111 o.2.2 G p.1).gr,Nat.le_trans (o_zw _) (o_111 o.2.2 G p.1).len⟩) _ (Nat.le_refl _)
 rw [o_zp] at this
 intro p hp
 exact (this p hp).le (Nat.mul_le_mul_right _ (by omega))
theorem o_11l {k a w:Nat} (h:GoodS k a w) {o:St} (h1:o.1≤15) {s:St} (hs:okQ (topC w) s) (ho:okQ (topC w) o):Eqn Tryz.prog o_aj [.mp 0] [spO (mgQ (topC w) k a s o)] (.d (.sl (atQ (mgQ (topC w) k a s o)).length (spD rcD (atQ (mgQ (topC w) k a s o))))) [spO (mgQ (topC w) k a s o)]:=by
 have h8:2^w≤16:=Nat.pow_le_pow_right (n:=2) (by omega) h.2.2
 have h7:topC w≤15:=by unfold topC;omega
 obtain ⟨G,hG,hG63,-,hc⟩:=o_10r h
 have hl:=o_11h (mg_uq (top:=topC w) (k:=k) (a:=a) s o) (mg_ok h hs ho)
 refine o_zf _ (mg_uq s o) (mg_nz s o) (Nat.le_trans (List.length_filter_le _ _) (by omega)) (by omega) fun p hp=>(mg_gr h hc hs (by omega) p hp).rs (Nat.mul_pos (Nat.pow_pos hG) hG) (Nat.mul_pos (by decide) (Nat.pow_pos (by decide))) (o_11e hG63 (by omega)).1
end
section
open Go.RowKit
theorem Gr.scale {D B:Nat} {q:Rat} (E:Nat) (h:Gr D B q):Gr (D*E) B q:=by
 obtain ⟨z,h1,h2⟩:=h
 refine ⟨z*E,?_,?_⟩
 ·have e1:((z*E:Nat):Rat)=(z:Rat)*(E:Rat):=by simp
  have e2:((D*E:Nat):Rat)=(D:Rat)*(E:Rat):=by simp
  rw [e1,e2,←h1];grind
 ·rw [←Nat.mul_assoc];exact Nat.mul_le_mul_right _ h2
end
section
open Go.RowKit
theorem o_11m (L:Sp):psum L L.length=exQ (fun _=>1) L:=by
 have key:∀(L:Sp) (x:Rat),L.foldl (fun x p=>x+p.2) x=x+exQ (fun _=>1) L:=by
  intro L
  induction L with
  | nil=>intro x;simp only [List.foldl_nil,exQ];grind
  | cons p L ih=>intro x;rw [List.foldl_cons,ih];simp only [exQ];grind
 unfold psum
 rw [List.take_length,key];grind
theorem o_11n {D B:Nat} {L:Sp} (h:∀p∈L,Gr D B p.2):∀i,i≤L.length→Gr D (i*B) (psum L i)
 | 0,_=>by simpa [psum] using Gr.zero D (0*B)
 | i+1,hi=>by
  have hi':i<L.length:=hi
  rw [o_11b L i hi']
  have:=(o_11n h i (by omega)).add (h L[i] (List.getElem_mem hi'))
  rwa [Nat.add_mul,Nat.one_mul]
end
section
open Go.RowKit
theorem o_11o (n:Nat) (h0:0<n) (hn:n≤100000):Eqn Tryz.prog o_dq [.d .nilsl,.d (.int .i64 n)] [] (.own 0 6 0) [⟨54,[]⟩]:=by
 refine Eqn.gen [0] o_ds (by simp) (by simp) (by rfl) (by decide) (by simp) (by simp) ?_
 refine cc (c':=?z210) ?_ ?_
 case refine_1=>cbv<;>exact rfl
 have g1:¬(n:Int)<0:=by omega
 have g2:(0:Int)<n:=by omega
 have e0:IntKind.i64.wrap 0=0:=w64 (by omega) (by omega)
 have e1:IntKind.i64.wrap (0-0)=0:=w64 (by omega) (by omega)
 have e2:IntKind.i64.wrap ((n:Int)-0)=n:=by rw [w64 (by omega) (by omega)];omega
 have e3:IntKind.i64.wrap (n:Int)=n:=w64 (by omega) (by omega)
 refine A10 (fs g1 (fs g2 (fs h0 (fs e0 (fs e1 (fs e2 e3)))))) ?_;try with_reducible exact tt
theorem o_11p (la lb:Nat) (A B:List D) (ha:A.length=la*6) (hb:B.length=lb*6) (h0:0<la) (h1:0<lb) (hla:la≤1000) (hlb:lb≤1000):Eqn Tryz.prog o_am [.d (.sl 2 [.sl la A,.sl lb B])] [] (.own 0 6 (la+lb)) [⟨54,(A++B).map .d⟩]:=by
 refine Eqn.gen [2] o_ao (by simp) (by simp) (by rfl) (by decide) (by simp) (by intro ob h;simp only [List.mem_singleton] at h;subst h;exact o_62 _ _) ?_
 refine cc (c':=?z211) ?_ ?_
 case refine_1=>cbv<;>exact rfl
 have hg:=o_11o (la+lb) (by omega) (by omega)
 have e1:IntKind.i64.wrap (0+(la:Int))=la:=by rw [w64 (by omega) (by omega)];omega
 have e1':IntKind.i64.wrap (la:Int)=la:=w64 (by omega) (by omega)
 have e2:IntKind.i64.wrap ((la:Int)+lb)=((la+lb:Nat):Int):=by rw [w64 (by omega) (by omega)];omega
 have g1:¬(la:Int)<0:=by omega
 have g2:¬((la+lb:Nat):Int)<0:=by omega
 have l0:la≠0:=by omega
 have l1:lb≠0:=by omega
 obtain ⟨n,hn⟩:∃n,n=la+lb:=⟨_,rfl⟩
 rw [←hn] at hg e2 g2 ⊢
 have w1:IntKind.i64.wrap (0+1)=1:=by decide
 have w2:IntKind.i64.wrap (1+1)=2:=by decide
 refine A00 ?_;try with_reducible exact tt
 refine AW.rounds 3 ?_
 refine A10 (fs e1 (fs e1' (fs e2 (fs g1 (fs g2 (fs w1 w2)))))) ?_;try with_reducible exact tt
 refine CallS.nX (hg) (hO':=o_5m []) (R0 ?_);try with_reducible exact tt
 refine AW.rounds 3 ?_
 refine A10 (fs ha (fs hb (fs l0 (fs l1 (fs w1 w2))))) ?_;try with_reducible exact tt
 first
 | (refine ⟨by rw [hn];exact Sub1.refl _,Subs.of ?_⟩;rw [←List.map_append,o_61])
 | (rw [hn];exact Sub1.refl _)
end
section
open Go.RowKit
def inG (mg:St→St→Sp) (x:St×Rat) (B:Sp) (out:Sp) (j:Nat):Sp:=(B.take j).foldl (fun out y=>innQ (x.2*y.2) out (atQ (mg x.1 y.1))) out
def outG (mg:St→St→Sp) (A B:Sp) (i:Nat):Sp:=(A.take i).foldl (fun out x=>B.foldl (fun out y=>innQ (x.2*y.2) out (atQ (mg x.1 y.1))) out) []
def mrgG (mg:St→St→Sp) (A B:Sp):Sp:=A.foldl (fun out x=>B.foldl (fun out y=>innQ (x.2*y.2) out (atQ (mg x.1 y.1))) out) []
theorem o_11q (mg:St→St→Sp) (x:St×Rat) (B out:Sp) (j:Nat) (h:j<B.length):inG mg x B out (j+1)=innQ (x.2*B[j].2) (inG mg x B out j) (atQ (mg x.1 B[j].1)):=by
 unfold inG;rw [List.take_add_one,List.getElem?_eq_getElem h,Option.toList,List.foldl_append];rfl
theorem o_11r (mg:St→St→Sp) (x:St×Rat) (B out:Sp):inG mg x B out B.length=B.foldl (fun out y=>innQ (x.2*y.2) out (atQ (mg x.1 y.1))) out:=by unfold inG;rw [List.take_length]
theorem o_11s (mg:St→St→Sp) (A B:Sp) (i:Nat) (h:i<A.length):outG mg A B (i+1)=inG mg A[i] B (outG mg A B i) B.length:=by
 rw [o_11r]
 unfold outG;rw [List.take_add_one,List.getElem?_eq_getElem h,Option.toList,List.foldl_append];rfl
theorem o_11t (mg:St→St→Sp) (A B:Sp):outG mg A B A.length=mrgG mg A B:=by unfold outG mrgG;rw [List.take_length]
theorem o_11u {mg:St→St→Sp} {D C M J:Nat} {x:St×Rat} {B out:Sp} (ho:∀p∈out,Gr D C p.2) (hB:∀y∈B,(∀p∈atQ (mg x.1 y.1),Gr D M (x.2*y.2*p.2))∧(atQ (mg x.1 y.1)).length≤J):∀j,j≤B.length→∀p∈inG mg x B out j,Gr D (C+j*J*M) p.2
 | 0,_=>fun p hp=>by
  simp [inG] at hp
  exact (ho p hp).le (by omega)
 | j+1,hj=>by
  have hj':j<B.length:=hj
  rw [o_11q mg x B out j hj']
  obtain ⟨h1,h2⟩:=hB B[j] (List.getElem_mem hj')
  intro p hp
  refine (o_zr (o_11u ho hB j (by omega)) _ h1 p hp).le ?_
  have:=Nat.mul_le_mul_right M h2
  have e:(j+1)*J*M=j*J*M+J*M:=by rw [Nat.add_mul j 1 J,Nat.one_mul,Nat.add_mul]
  omega
theorem o_11v {mg:St→St→Sp} {D M J L:Nat} {A B:Sp} (hBL:B.length≤L) (hAB:∀x∈A,∀y∈B,(∀p∈atQ (mg x.1 y.1),Gr D M (x.2*y.2*p.2))∧(atQ (mg x.1 y.1)).length≤J):∀i,i≤A.length→∀p∈outG mg A B i,Gr D (i*(L*J)*M) p.2
 | 0,_=>fun p hp=>by simp [outG] at hp
 | i+1,hi=>by
  have hi':i<A.length:=hi
  rw [o_11s mg A B i hi']
  intro p hp
  refine (o_11u (o_11v hBL hAB i (by omega)) (hAB A[i] (List.getElem_mem hi')) B.length (Nat.le_refl _) p hp).le ?_
  have h1:=Nat.mul_le_mul_right M (Nat.mul_le_mul_right J hBL)
  have e:(i+1)*(L*J)*M=i*(L*J)*M+L*J*M:=by rw [Nat.add_mul i 1 (L*J),Nat.one_mul,Nat.add_mul]
  omega
structure MrgOK (k a w:Nat) (mg:St→St→Sp) (A B:Sp) (D M J L:Nat):Prop where
 dp:0<D
 mp:1≤M
 jp:1≤J
 lp:1≤L
 j2:J≤1000
 a1:1≤A.length
 a2:A.length≤1000
 b1:1≤B.length
 b2:B.length≤L
 l2:L≤1000
 xs:∀x∈A,0≤x.2∧RS x.2 40000
 ys:∀y∈B,0≤y.2∧RS y.2 40000
 gr:∀x∈A,∀y∈B,(∀p∈atQ (mg x.1 y.1),Gr D M (x.2*y.2*p.2))∧(atQ (mg x.1 y.1)).length≤J
 rs:∀x∈A,∀y∈B,∀p∈atQ (mg x.1 y.1),RS p.2 100000
 sz:size ((A.length+2)*(L*J)*M*D)≤100000
 cost:Eqn Tryz.prog o_ap [.d (parD k a w),.d (.sl (A.length+B.length) (stsD ((A++B).map (·.1))))] [] (.d (.int .i64 0)) []
 call:∀x∈A,∀y∈B,Eqn Tryz.prog o_as [.d (parD k a w),.d (.agg (stD x.1)),.d (.agg (stD y.1))] [] (.mp 0) [spO (mg x.1 y.1)]∧Eqn Tryz.prog o_aj [.mp 0] [spO (mg x.1 y.1)] (.d (.sl (atQ (mg x.1 y.1)).length (spD rcD (atQ (mg x.1 y.1))))) [spO (mg x.1 y.1)]
 out:Eqn Tryz.prog o_aj [.mp 0] [spO (mrgG mg A B)] (.d (.sl (atQ (mrgG mg A B)).length (spD rcD (atQ (mrgG mg A B))))) [spO (mrgG mg A B)]
def slC (la lb:Nat) (A B C:List D) (n i:Nat):List V:=setS (List.replicate 100 .junk) [(1,.d (.sl la A)),(2,.d (.sl lb B)),(3,.p 0 0),(8,if i=0 then .d .nilsl else .own 1 3 i),(9,.d (.bool false)),(23,.d (.sl n C)),(24,.d (.int .i64 n)),(25,.d (.int .i64 (i:Nat)))]
def hpC (k a w:Nat) (S:List St) (i:Nat):List (Option Ob):=[some ⟨29,[.d (.int .i64 k),.d (.int .i64 a),.d (.int .i64 w)]⟩]++if i=0 then [] else [some ⟨35,(stsD (S.take i)).map .d⟩]
theorem o_11w (S:List St) (i:Nat) (h:i<S.length):stsD (S.take (i+1))=stsD (S.take i)++stD S[i]:=by
 unfold stsD;rw [List.take_add_one,List.getElem?_eq_getElem h,Option.toList,List.flatMap_append];simp
theorem o_11x {x:Rat} (h:0≤x):¬cmpQ x 0<0:=by
 unfold cmpQ
 rw [if_neg (Rat.not_lt.2 h)]
 split<;>decide
set_option maxHeartbeats 4000000 in
theorem o_11y {k a w:Nat} {mg:St→St→Sp} {A B:Sp} {G M J L:Nat} (h:MrgOK k a w mg A B G M J L):Eqn Tryz.prog o_8g [.d (parD k a w),.d (.sl A.length (spD rcD A)),.d (.sl B.length (spD rcD B))] [] (.tup [.d (.sl (atQ (mrgG mg A B)).length (spD rcD (atQ (mrgG mg A B)))),.d (.int .i64 0)]) []:=by
 refine Eqn.pure o_8i Plain.ok ?_
 have ha:=o_v5 rcD (fun _=>rfl) A
 have hb:=o_v5 rcD (fun _=>rfl) B
 have hcon:=o_11p A.length B.length (spD rcD A) (spD rcD B) ha hb h.a1 h.b1 h.a2 (Nat.le_trans h.b2 h.l2)
 have hAB:spD rcD A++spD rcD B=spD rcD (A++B):=by simp [spD]
 rw [hAB] at hcon
 have hc:=o_v5 rcD (fun _=>rfl) (A++B)
 have hcl:(A++B).length=A.length+B.length:=List.length_append
 have hget:=o_zy (A++B)
 have hgA:=o_zy A
 have hgB:=o_zy B
 have hA2:=h.a2
 have hB2:=h.b2
 have hL2:=h.l2
 have hJ2:=h.j2
 have hout:=h.out
 have hgo:=o_11v h.b2 h.gr
 have hnn:∀p∈A++B,0≤p.2∧RS p.2 40000:=fun p hp=>by
  rcases List.mem_append.1 hp with hp | hp
  ·exact h.xs p hp
  ·exact h.ys p hp
 have hcost:=h.cost
 have hn1:A.length+B.length≤2000:=by have:=h.a2;have:=h.b2;have:=h.l2;omega
 have hsl:((A++B).map (·.1)).length=(A++B).length:=List.length_map _
 have hsg:∀i (hi:i<(A++B).length),((A++B).map (·.1))[i]'(by rw [hsl];exact hi)=(A++B)[i].1:=fun i hi=>List.getElem_map _
 have hsn:=o_11w ((A++B).map (·.1))
 have hsll:=fun i=>o_114 (((A++B).map (·.1)).take i)
 rw [←hcl] at hcon hcost hn1
 generalize hSS:(A++B).map (·.1)=S at *
 generalize hBB:A++B=AB at *
 generalize spD rcD A=CA at *
 generalize spD rcD B=CB at *
 obtain ⟨n,hn⟩:∃n,n=AB.length:=⟨_,rfl⟩
 rw [←hn] at hcon hcost hn1 hc hcl hsl
 have htk:(spD rcD AB).take (n*6)=spD rcD AB:=List.take_of_length_le (by omega)
 refine cc (c':=?z212) ?_ ?_
 case refine_1=>cbv<;>exact rfl
 try simp only [parD] at hcost ⊢
 refine A00 ?_;try with_reducible exact tt
 refine CallS.gf 1 1 ⟨_,[.d (.sl A.length CA),.d (.sl B.length CB)]⟩ [.sl A.length CA,.sl B.length CB] [] (hcon) (R0 ?_);try with_reducible exact tt
 refine AW.freeze 2 6 ⟨54,(spD rcD AB).map .d⟩ (spD rcD AB) (by simp) rfl ?_
 simp [frzH,htk]
 refine AW.loopG (α:=Nat) (fun i=>slC A.length B.length CA CB (spD rcD AB) n i) (fun i=>hpC k a w S i) (fun i=>i≤n) (fun i=>n-i) 0 ?_ (Nat.zero_le _) ?_ ?_ ?_
 ·intro i hi;unfold hpC;split<;>simp
 ·simp [slC,hpC]
 ·simp [hpC]
 rintro i hi
 by_cases hi2:i<n
 ·have hi3:(i:Int)<n:=by omega
  obtain ⟨s1,s2,s3,q,N1,N2,N3,hp,hN,hg⟩:=hget i (by omega)
  obtain ⟨hq0,hqr⟩:=hnn _ (List.getElem_mem (by omega:i<AB.length))
  rw [hp] at hq0 hqr
  have hsi:=hsn i (by omega)
  rw [hsg i (by omega),hp] at hsi
  have hlen:=hsll i
  rw [List.length_take,Nat.min_eq_left (by omega)] at hlen
  have ho:=rof0
  have hcm:=o_t1 q 0 (hqr.le (by omega)) ⟨by decide,by decide⟩
  have hcn:=o_11x hq0
  generalize cmpQ q 0=z at *
  have hz0:rcD 0=[natW 0,.bool false,natW 0]:=rfl
  rw [o_x5,o_x5,hN] at hcm
  rw [o_x5] at ho
  rw [hz0] at hcm ho
  have ew:IntKind.i64.wrap ((i:Int)+1)=((i+1:Nat):Int):=by rw [w64 (by omega) (by omega)];omega
  have hb6:i*6+6≤n*6:=by omega
  have hb7:i*6<n*6:=by omega
  have ht3:(stsD (S.take i)).length=i*3:=hlen
  by_cases h0:i=0
  ·subst h0
   simp only [slC,hpC,if_true]
   simp only [Nat.zero_mul,List.drop_zero] at hg
   simp
   refine A12 (fs hi2 (fs hi3 (fs hg (fs hc (fs hb6 (fs hb7 (fs ew hcn))))))) ho hcm ?_;try with_reducible exact tt
   refine ⟨1,1,3,⟨by omega,by omega⟩,by omega,by omega,?_,?_⟩
   ·simp [slC,hpC,swT,swH,sw,Ob.sw,V.ren,V.rens]
   ·rw [hsi]
    simp [slC,hpC,swT,swH,sw,Ob.sw,V.ren,V.rens,stsD,stD]
  ·have hcs:([.int .i64 s1,.int .i64 s2,.bool s3]:List D).map V.d=[.d (.int .i64 s1),.d (.int .i64 s2),.d (.bool s3)]:=rfl
   simp only [slC,hpC,if_neg h0]
   simp
   refine A12 (fs hi2 (fs hi3 (fs hg (fs hc (fs hb6 (fs hb7 (fs ew (fs hcn (fs ht3 h0))))))))) ho hcm ?_;try with_reducible exact tt
   refine ⟨i+1,1,4,⟨by omega,by omega⟩,by omega,by omega,?_,?_⟩
   ·simp [slC,hpC,swT,swH,sw,Ob.sw,V.ren,V.rens]
   ·rw [hsi]
    simp [slC,hpC,swT,swH,sw,Ob.sw,V.ren,V.rens,stD]
    all_goals (rw [←hcs,←List.map_append,o_61];exact ⟨Subs.refl _,o_62 _ _⟩)
 ·have h2:i=n:=by omega
  subst h2
  have h0:¬i=0:=by have:=h.a1;omega
  have hSt:S.take i=S:=List.take_of_length_le (by omega)
  have hsl3:=o_114 S
  have htk3:(stsD S).take (i*3)=stsD S:=List.take_of_length_le (by omega)
  simp only [slC,hpC,if_neg h0,hSt]
  simp
  refine AW.freeze 1 3 ⟨35,(stsD S).map .d⟩ (stsD S) (by simp) rfl ?_
  simp [frzH,htk3]
  refine A01 hcost ?_;try with_reducible exact tt
  rw [←o_11t] at hout ⊢
  refine AW.loopG (α:=Nat) (fun j=>setS (List.replicate 100 .junk) [(1,.d (.sl A.length CA)),(2,.d (.sl B.length CB)),(3,.p 0 0),(13,.mp 2),(59,.d (.sl A.length CA)),(60,.d (.int .i64 A.length)),(61,.d (.int .i64 (j:Nat)))]) (fun j=>[some ⟨29,[.d (.int .i64 k),.d (.int .i64 a),.d (.int .i64 w)]⟩,none,some ⟨1000391,(spD rcD (outG mg A B j)).map .d⟩]) (fun j=>j≤A.length) (fun j=>A.length-j) 0 ?_ (Nat.zero_le _) ?_ ?_ ?_
  ·intro i hi;simp
  ·simp
  ·simp [outG,spD]
  clear hget hcon hcost hnn hsl hsg hsn hsll hSt hsl3 htk3 htk hc hBB hSS
  rintro u hu
  simp
  by_cases hu2:u<A.length
  ·have hu3:(u:Int)<A.length:=by omega
   obtain ⟨x1,x2,x3,xq,X1,X2,X3,hpx,hX,hgx⟩:=hgA u hu2
   have hxm:((x1,x2,x3),xq)∈A:=by rw [←hpx];exact List.getElem_mem hu2
   have hxr:=(h.xs _ hxm).2
   have hgou:=hgo u hu
   have hon:=o_11s mg A B u hu2
   rw [hpx] at hon
   have hx6:u*6+6≤A.length*6:=by omega
   have hx7:u*6<A.length*6:=by omega
   have ewu:IntKind.i64.wrap ((u:Int)+1)=((u+1:Nat):Int):=by rw [w64 (by omega) (by omega)];omega
   refine A10 (fs hu2 (fs hu3 (fs hgx (fs ha (fs hx6 hx7))))) ?_;try with_reducible exact tt
   refine AW.loopG (α:=Nat) (fun j=>setS (List.replicate 100 .junk) [(1,.d (.sl A.length CA)),(2,.d (.sl B.length CB)),(3,.p 0 0),(13,.mp 2),(15,.p 3 0),(59,.d (.sl A.length CA)),(60,.d (.int .i64 A.length)),(61,.d (.int .i64 (u:Nat))),(65,.d (.sl B.length CB)),(66,.d (.int .i64 B.length)),(67,.d (.int .i64 (j:Nat)))]) (fun j=>[some ⟨29,[.d (.int .i64 k),.d (.int .i64 a),.d (.int .i64 w)]⟩,none,some ⟨1000391,(spD rcD (inG mg ((x1,x2,x3),xq) B (outG mg A B u) j)).map .d⟩,some ⟨54,[.d (.int .i64 x1),.d (.int .i64 x2),.d (.bool x3),.d X1,.d X2,.d X3]⟩]) (fun j=>j≤B.length) (fun j=>B.length-j) 0 ?_ (Nat.zero_le _) ?_ ?_ ?_
   ·intro i hi;simp
   ·simp
   ·simp [inG]
   rintro v hv
   simp
   by_cases hv2:v<B.length
   ·have hv3:(v:Int)<B.length:=by omega
    obtain ⟨y1,y2,y3,yq,Y1,Y2,Y3,hpy,hY,hgy⟩:=hgB v hv2
    have hym:((y1,y2,y3),yq)∈B:=by rw [←hpy];exact List.getElem_mem hv2
    have hyr:=(h.ys _ hym).2
    obtain ⟨hme,hat⟩:=h.call _ hxm _ hym
    obtain ⟨hgC,hJ⟩:=h.gr _ hxm _ hym
    have hrC:=h.rs _ hxm _ hym
    have hin:=o_11u hgou (fun y hy=>h.gr _ hxm y hy) v hv
    have hon2:=o_11q mg ((x1,x2,x3),xq) B (outG mg A B u) v hv2
    rw [hpy] at hon2
    simp only at hme hat hgC hJ hrC hon2
    have hy6:v*6+6≤B.length*6:=by omega
    have hy7:v*6<B.length*6:=by omega
    have ewv:IntKind.i64.wrap ((v:Int)+1)=((v+1:Nat):Int):=by rw [w64 (by omega) (by omega)];omega
    have hq:=o_sy xq yq (hxr.le (by omega)) (hyr.le (by omega))
    have hqr:=(RS.mul hxr hyr).le (M:=100000) (by omega)
    obtain ⟨C,hC⟩:∃C,C=atQ (mg (x1,x2,x3) (y1,y2,y3)):=⟨_,rfl⟩
    rw [←hC] at hat hgC hJ hrC hon2
    have hCl:=o_v5 rcD (fun _=>rfl) C
    have hgetC:=o_zy C
    have hJ1:u*(L*J)*M+v*J*M+J*M≤(A.length+2)*(L*J)*M:=by
     have k1:v*J≤L*J:=Nat.mul_le_mul_right J (by omega)
     have k2:J≤L*J:=Nat.le_mul_of_pos_left J h.lp
     have k3:=Nat.mul_le_mul_right M k1
     have k4:=Nat.mul_le_mul_right M k2
     have k5:u*(L*J)*M≤A.length*(L*J)*M:=Nat.mul_le_mul_right M (Nat.mul_le_mul_right _ hu)
     have k6:(A.length+2)*(L*J)*M=A.length*(L*J)*M+2*(L*J*M):=by rw [Nat.add_mul A.length 2,Nat.add_mul,Nat.mul_assoc 2]
     rw [k6]
     omega
    have hCAP:1≤(A.length+2)*(L*J)*M:=Nat.mul_pos (Nat.mul_pos (by omega) (Nat.mul_pos h.lp h.jp)) h.mp
    have hM1:M≤(A.length+2)*(L*J)*M:=Nat.le_mul_of_pos_left M (Nat.mul_pos (by omega) (Nat.mul_pos h.lp h.jp))
    have hsz:=h.sz
    generalize (A.length+2)*(L*J)*M=CAP at *
    simp only [spO,stD,parD] at hme hat
    rw [o_x5 xq,o_x5 yq,hX,hY,o_x5] at hq
    obtain ⟨Q1,Q2,Q3,hQ⟩:∃Q1 Q2 Q3,rcD (xq*yq)=[Q1,Q2,Q3]:=⟨_,_,_,rfl⟩
    rw [hQ] at hq
    refine A10 (fs hv2 (fs hv3 (fs hgy (fs hb (fs hy6 hy7))))) ?_;try with_reducible exact tt
    refine CallS.nX (hme) (R0 ?_);try with_reducible exact tt
    refine CallS.g [5] (hat) (R0 ?_);try with_reducible exact tt
    refine AW.loopG (α:=Nat) (fun j=>setS (List.replicate 100 .junk) [(1,.d (.sl A.length CA)),(2,.d (.sl B.length CB)),(3,.p 0 0),(13,.mp 2),(15,.p 3 0),(17,.p 4 0),(59,.d (.sl A.length CA)),(60,.d (.int .i64 A.length)),(61,.d (.int .i64 (u:Nat))),(65,.d (.sl B.length CB)),(66,.d (.int .i64 B.length)),(67,.d (.int .i64 (v:Nat))),(77,.d (.sl C.length (spD rcD C))),(78,.d (.int .i64 C.length)),(79,.d (.int .i64 (j:Nat)))]) (fun j=>[some ⟨29,[.d (.int .i64 k),.d (.int .i64 a),.d (.int .i64 w)]⟩,none,some ⟨1000391,(spD rcD (innQ (xq*yq) (inG mg ((x1,x2,x3),xq) B (outG mg A B u) v) (C.take j))).map .d⟩,some ⟨54,[.d (.int .i64 x1),.d (.int .i64 x2),.d (.bool x3),.d X1,.d X2,.d X3]⟩,some ⟨54,[.d (.int .i64 y1),.d (.int .i64 y2),.d (.bool y3),.d Y1,.d Y2,.d Y3]⟩]) (fun j=>j≤C.length) (fun j=>C.length-j) 0 ?_ (Nat.zero_le _) ?_ ?_ ?_
    ·intro i hi;simp
    ·simp
    ·simp [innQ]
    rintro j hj
    simp
    by_cases hj2:j<C.length
    ·have hj3:(j:Int)<C.length:=by omega
     obtain ⟨t1,t2,t3,r,M1,M2,M3,hpc,hMM,hgc⟩:=hgetC j hj2
     have hinn:=o_zn (xq*yq) (inG mg ((x1,x2,x3),xq) B (outG mg A B u) v) C j hj2
     have hgr:=hgC _ (List.getElem_mem hj2)
     have hrr:=hrC _ (List.getElem_mem hj2)
     rw [hpc] at hinn hgr hrr
     simp only at hinn hgr hrr
     have hgi:=o_zr (q:=xq*yq) hin (C.take j) (fun p hp=>hgC p (List.mem_of_mem_take hp))
     have hget2:=(o_zq hgi (t1,t2,t3)).le (C:=CAP) (by
      have e1:(C.take j).length*M≤J*M:=Nat.mul_le_mul_right M (by rw [List.length_take];omega)
      omega)
     have hmul:=o_sy r (xq*yq) hrr hqr
     rw [Rat.mul_comm r] at hmul
     have hadd:=o_x8 (innQ (xq*yq) (inG mg ((x1,x2,x3),xq) B (outG mg A B u) v) (C.take j)) (t1,t2,t3) (xq*yq*r) (hget2.rs h.dp hCAP hsz) ((hgr.le hM1).rs h.dp hCAP hsz)
     have ewj:IntKind.i64.wrap ((j:Int)+1)=((j+1:Nat):Int):=by rw [w64 (by omega) (by omega)];omega
     have hc6:j*6+6≤C.length*6:=by omega
     have hc7:j*6<C.length*6:=by omega
     rw [←hinn] at hadd
     rw [o_x5 r,o_x5 (xq*yq),o_x5 (xq*yq*r),hQ,hMM] at hmul
     rw [o_x5 (xq*yq*r)] at hadd
     obtain ⟨P1,P2,P3,hP⟩:∃P1 P2 P3,rcD (xq*yq*r)=[P1,P2,P3]:=⟨_,_,_,rfl⟩
     rw [hP] at hmul hadd
     simp only [spO,stD] at hadd
     refine A12 (fs hj2 (fs hj3 (fs hgc (fs hCl (fs hc6 hc7))))) hq hmul ?_;try with_reducible exact tt
     refine CallS.g [2] (hadd) (R0 ?_);try with_reducible exact tt
     refine A10 ewj ?_;try with_reducible exact tt
     refine ⟨j+1,2,2,⟨by omega,by omega⟩,by omega,by omega,?_,?_⟩
     ·simp [swT,swH,sw,Ob.sw,V.ren,V.rens]
     ·simp [swT,swH,sw,Ob.sw,V.ren,V.rens]
    ·have h2:j=C.length:=by omega
     subst h2
     rw [List.take_length,←hon2]
     refine A10 ewv ?_;try with_reducible exact tt
     refine ⟨v+1,2,2,⟨by omega,by omega⟩,by omega,by omega,?_,?_⟩
     ·simp [swT,swH,sw,Ob.sw,V.ren,V.rens]
     ·simp [swT,swH,sw,Ob.sw,V.ren,V.rens]
   ·have h2:v=B.length:=by omega
    subst h2
    rw [←hon]
    refine A10 ewu ?_;try with_reducible exact tt
    refine ⟨u+1,2,2,⟨by omega,by omega⟩,by omega,by omega,?_,?_⟩
    ·simp [swT,swH,sw,Ob.sw,V.ren,V.rens]
    ·simp [swT,swH,sw,Ob.sw,V.ren,V.rens]
  ·have h2:u=A.length:=by omega
   subst h2
   simp only [spO] at hout
   refine A00 ?_;try with_reducible exact tt
   refine CallS.g [2] (hout) (R0 ?_);try with_reducible exact tt
   done
end
section
open Go.RowKit
theorem wellQ {k a w:Nat} (h:GoodS k a w) {t:St} (ht:okQ (topC w) t):WellR k a w t.1 t.2.1 t.2.2:=.inr ⟨by have:=h.1;omega,ht.2.1,ht.1,ht.2.2⟩
end
section
open Go.RowKit
end
section
open Go.RowKit
def hf2:Rat:=mkRat 1 2
end
section
open Go.RowKit
def dlQ (s t:St):Rat:=if t=s then 1 else 0
def gA (top:Nat):Nat→St→Rat
 | 0,_=>0
 | i+1,t=>(gA top i t+dlQ (top-i,0,true) t)+dlQ (top-i,0,false) t
end
section
open Go.RowKit
end
section
open Go.RowKit
theorem o_11z {a b:Rat} (h:a≤b):cmpQ a b≤0:=by
 unfold cmpQ
 split
 ·decide
 ·rename_i h1
  rw [if_neg (Rat.not_lt.2 h)];decide
end
section
open Go.RowKit
def chs:Nat→Nat→Nat
 | _,0=>1
 | 0,_+1=>0
 | n+1,k+1=>chs n k+chs n (k+1)
theorem chs_z (n:Nat):chs n 0=1:=by cases n<;>rfl
theorem o_120:∀{n k:Nat},n<k→chs n k=0
 | 0,k+1,_=>rfl
 | n+1,k+1,h=>by
  show chs n k+chs n (k+1)=0
  rw [o_120 (by omega),o_120 (by omega)]
theorem o_121:∀n k:Nat,chs n k≤2^n
 | n,0=>by rw [chs_z];exact Nat.two_pow_pos n
 | 0,k+1=>Nat.zero_le _
 | n+1,k+1=>by
  have h1:=o_121 n k
  have h2:=o_121 n (k+1)
  show chs n k+chs n (k+1)≤2^(n+1)
  rw [Nat.pow_succ];omega
theorem o_122:∀n k:Nat,k≤n→chs n (k+1)*(k+1)=chs n k*(n-k)
 | 0,k,h=>by
  have:k=0:=by omega
  subst this;rfl
 | n+1,0,_=>by
  have h:=o_122 n 0 (Nat.zero_le _)
  show (chs n 0+chs n 1)*1=chs (n+1) 0*(n+1)
  rw [chs_z] at h ⊢
  rw [chs_z]
  simp at h ⊢
  omega
 | n+1,k+1,h=>by
  have h1:=o_122 n k (by omega)
  show (chs n (k+1)+chs n (k+2))*(k+2)=(chs n k+chs n (k+1))*(n+1-(k+1))
  rw [show n+1-(k+1)=n-k by omega,Nat.add_mul (chs n k),←h1]
  rcases Nat.lt_or_ge k n with h3 | h3
  ·have h2:=o_122 n (k+1) (by omega)
   rw [Nat.add_mul,h2,←Nat.mul_add,←Nat.mul_add]
   congr 1;omega
  ·have e:k=n:=by omega
   subst e
   rw [o_120 (show k<k+1 by omega),o_120 (show k<k+2 by omega)];simp
def wayQ (K:Nat):Nat→Nat
 | 0=>1
 | k+1=>wayQ K k*(K-k)/(k+1)
theorem o_123 (K:Nat):∀k,k≤K+1→wayQ K k=chs K k
 | 0,_=>(chs_z K).symm
 | k+1,h=>by
  show wayQ K k*(K-k)/(k+1)=_
  rw [o_123 K k (by omega),←o_122 K k (by omega),Nat.mul_div_cancel _ (by omega)]
def binP (K k:Nat):Rat:=((wayQ K k:Nat):Rat)*mkRat 1 (2^K)
def binI (s:St):Nat→Sp
 | 0=>[]
 | i+1=>addQ (binI s i) (i,s.2.1+1,s.2.2) (binP s.1 i)
def binQ (s:St):Sp:=binI s (s.1+1)
def bex:Nat→(Nat→Rat)→Rat
 | 0,g=>g 0
 | n+1,g=>mkRat 1 2*(bex n g+bex n fun k=>g (k+1))
def csum (n:Nat) (g:Nat→Rat):Nat→Rat
 | 0=>0
 | i+1=>csum n g i+((chs n i:Nat):Rat)*g i
theorem o_124 (n:Nat) (g:Nat→Rat):∀i,csum (n+1) g (i+1)=g 0+csum n (fun k=>g (k+1)) i+(csum n g (i+1)-g 0)
 | 0=>by
  simp only [csum,chs_z]
  have:((1:Nat):Rat)=1:=rfl
  rw [this];grind
 | i+1=>by
  have ih:=o_124 n g i
  rw [csum,ih]
  have e1:csum n g (i+1+1)=csum n g (i+1)+((chs n (i+1):Nat):Rat)*g (i+1):=rfl
  have e2:csum n (fun k=>g (k+1)) (i+1)=csum n (fun k=>g (k+1)) i+((chs n i:Nat):Rat)*g (i+1):=rfl
  have e3:((chs (n+1) (i+1):Nat):Rat)=((chs n i:Nat):Rat)+((chs n (i+1):Nat):Rat):=by
   rw [←Rat.natCast_add];rfl
  rw [e1,e2,e3];grind
theorem o_125 (n:Nat):(mkRat 1 (2^n))*((2^n:Nat):Rat)=1:=by
 rw [Rat.mkRat_eq_div]
 exact Rat.div_mul_cancel (o_zl (Nat.two_pow_pos n))
theorem o_126 (n:Nat):mkRat 1 (2^(n+1))=mkRat 1 2*mkRat 1 (2^n):=by
 rw [Rat.mkRat_mul_mkRat,Nat.pow_succ,Nat.mul_comm];rfl
theorem o_127:∀(n:Nat) (g:Nat→Rat),csum n g (n+1)*mkRat 1 (2^n)=bex n g
 | 0,g=>by
  simp only [csum,bex,chs_z]
  have:((1:Nat):Rat)=1:=rfl
  rw [this,show mkRat 1 (2^0)=1 from rfl];grind
 | n+1,g=>by
  have h1:=o_127 n g
  have h2:=o_127 n fun k=>g (k+1)
  show _=mkRat 1 2*(bex n g+bex n fun k=>g (k+1))
  rw [←h1,←h2,o_124,o_126]
  have e1:csum n g (n+1+1)=csum n g (n+1):=by
   show csum n g (n+1)+((chs n (n+1):Nat):Rat)*g (n+1)=_
   rw [o_120 (by omega)]
   have:((0:Nat):Rat)=0:=rfl
   rw [this];grind
  rw [e1];grind
theorem o_128 {s:St}:∀i,∀p∈binI s i,p.1.1<i∧p.1.2=(s.2.1+1,s.2.2)
 | 0,p,hp=>by cases hp
 | i+1,p,hp=>by
  rcases o_w2 hp with hp | rfl
  ·have:=o_128 i p hp
   exact ⟨by omega,this.2⟩
  ·exact ⟨by simp,rfl⟩
theorem o_129 (s:St):∀i,Uq (binI s i)
 | 0=>by simp [binI,Uq]
 | i+1=>o_vd (o_129 s i)
theorem o_12a (s:St) (g:St→Rat):∀i,i≤s.1+1→exQ g (binI s i)=csum s.1 (fun k=>g (k,s.2.1+1,s.2.2)) i*mkRat 1 (2^s.1)
 | 0,_=>by simp only [binI,exQ,csum];grind
 | i+1,h=>by
  show exQ g (addQ (binI s i) _ _)=_
  rw [o_ve g _ _ _ (o_129 s i),o_12a s g i (by omega)]
  unfold binP
  rw [o_123 _ _ (by omega)]
  simp only [csum];grind
theorem o_12b (s:St) (g:St→Rat):exQ g (binQ s)=bex s.1 fun k=>g (k,s.2.1+1,s.2.2):=by
 unfold binQ
 rw [o_12a s g _ (Nat.le_refl _),o_127]
theorem o_12c (c:Rat):∀n,bex n (fun _=>c)=c
 | 0=>rfl
 | n+1=>by
  show mkRat 1 2*(bex n (fun _=>c)+bex n fun _=>c)=c
  rw [o_12c c n]
  have h:mkRat 1 2*2=1:=by decide +kernel
  grind
end
section
open Go.RowKit
def Gi (e:Nat) (q:Rat):Prop:=∃z:Nat,q*((2^e:Nat):Rat)=(z:Rat)
theorem Gi.nn {e:Nat} {q:Rat} (h:Gi e q):0≤q:=by
 obtain ⟨z,h⟩:=h
 have hp:(0:Rat)<((2^e:Nat):Rat):=by exact_mod_cast Nat.two_pow_pos e
 apply Classical.byContradiction
 intro hn
 have hz:(0:Rat)≤(z:Rat):=by exact_mod_cast Nat.zero_le z
 have:=Rat.mul_lt_mul_of_pos_right (Rat.not_le.1 hn) hp
 grind
theorem Gi.zero (e:Nat):Gi e 0:=⟨0,by rw [Rat.zero_mul];rfl⟩
theorem Gi.one (e:Nat):Gi e 1:=⟨2^e,by rw [Rat.one_mul]⟩
theorem Gi.add {e:Nat} {x y:Rat} (hx:Gi e x) (hy:Gi e y):Gi e (x+y):=by
 obtain ⟨z,h1⟩:=hx
 obtain ⟨w,h2⟩:=hy
 refine ⟨z+w,?_⟩
 rw [Rat.natCast_add,←h1,←h2];grind
theorem Gi.mul {e f:Nat} {x y:Rat} (hx:Gi e x) (hy:Gi f y):Gi (e+f) (x*y):=by
 obtain ⟨z,h1⟩:=hx
 obtain ⟨w,h2⟩:=hy
 refine ⟨z*w,?_⟩
 rw [Rat.natCast_mul,←h1,←h2,Nat.pow_add,Rat.natCast_mul];grind
theorem Gi.up {e f:Nat} {x:Rat} (h:Gi e x) (hf:e≤f):Gi f x:=by
 have:=h.mul (Gi.one (f-e))
 rw [Rat.mul_one,show e+(f-e)=f by omega] at this
 exact this
theorem Gi.gr {e:Nat} {x:Rat} (h:Gi e x) (h1:x≤1):Gr (2^e) 1 x:=by
 obtain ⟨z,h⟩:=h
 refine ⟨z,h,?_⟩
 have hp:(0:Rat)≤((2^e:Nat):Rat):=by exact_mod_cast Nat.zero_le _
 have h2:=Rat.mul_le_mul_of_nonneg_right h1 hp
 rw [h,Rat.one_mul] at h2
 have:z≤2^e:=by exact_mod_cast h2
 omega
structure SpOK (e:Nat) (P:St→Prop) (l:Sp):Prop where
 uq:Uq l
 one:exQ (fun _=>1) l=1
 gi:∀p∈l,Gi e p.2
 ky:kyQ P l
theorem SpOK.nn {e:Nat} {P:St→Prop} {l:Sp} (h:SpOK e P l):∀p∈l,0≤p.2:=fun p hp=>(h.gi p hp).nn
theorem ex_nn {g:St→Rat}:∀{l:Sp},(∀p∈l,0≤p.2)→(∀p∈l,0≤g p.1)→0≤exQ g l
 | [],_,_=>Rat.le_refl
 | p::l,h,hg=>by
  have h1:=ex_nn (l:=l) (g:=g) (fun q hq=>h q (by simp [hq])) (fun q hq=>hg q (by simp [hq]))
  have h2:=Rat.mul_nonneg (h p (by simp)) (hg p (by simp))
  simp only [exQ];grind
theorem o_12d {l:Sp} (h0:∀p∈l,0≤p.2) (h1:exQ (fun _=>1) l≤1):∀p∈l,p.2≤1:=by
 induction l with
 | nil=>intro p hp;cases hp
 | cons q l ih =>
  have h2:0≤exQ (fun _=>(1:Rat)) l:=ex_nn (fun p hp=>h0 p (by simp [hp])) fun _ _=>(by decide:(0:Rat)≤1)
  have h3:=h0 q (by simp)
  simp only [exQ] at h1
  intro p hp
  rcases List.mem_cons.1 hp with rfl | hp
  ·grind
  ·exact ih (fun p hp=>h0 p (by simp [hp])) (by grind) p hp
theorem SpOK.gr {e:Nat} {P:St→Prop} {l:Sp} (h:SpOK e P l):∀p∈l,Gr (2^e) 1 p.2:=fun p hp=>(h.gi p hp).gr (o_12d h.nn (by rw [h.one];exact Rat.le_refl) p hp)
theorem SpOK.nz {e:Nat} {P:St→Prop} {l:Sp} (h:SpOK e P l):nzQ l≠[]:=o_11j h.one
theorem SpOK.mono {e f:Nat} {P Q:St→Prop} {l:Sp} (h:SpOK e P l) (hf:e≤f) (hQ:∀s,P s→Q s):SpOK f Q l:=⟨h.uq,h.one,fun p hp=>(h.gi p hp).up hf,fun p hp=>hQ _ (h.ky p hp)⟩
theorem SpOK.sure {P:St→Prop} (s:St) (hs:P s) (e:Nat):SpOK e P [(s,1)] where
 uq:=by simp [Uq]
 one:=by simp only [exQ];grind
 gi:=fun p hp=>by simp at hp;subst hp;exact Gi.one e
 ky:=fun p hp=>by simp at hp;subst hp;exact hs
theorem o_12e {e:Nat} {l:Sp} (h:∀p∈l,Gi e p.2) (s:St):Gi e (getQ l s):=by
 induction l with
 | nil=>exact Gi.zero e
 | cons p l ih =>
  unfold getQ
  split
  ·exact h p (by simp)
  ·exact ih fun q hq=>h q (by simp [hq])
theorem o_12f {e:Nat} {l:Sp} (h:∀p∈l,Gi e p.2) {s:St} {q:Rat} (hq:Gi e q):∀p∈addQ l s q,Gi e p.2:=by
 intro p hp
 rcases o_w2 hp with hp | rfl
 ·exact h p hp
 ·exact (o_12e h s).add hq
theorem o_12g {e f:Nat} {q:Rat} (hq:Gi e q):∀{l out:Sp},(∀p∈out,Gi (e+f) p.2)→(∀p∈l,Gi f p.2)→∀p∈innQ q out l,Gi (e+f) p.2
 | [],out,h,_=>h
 | b::l,out,h,hl=>o_12g hq (out:=addQ out b.1 (q*b.2)) (l:=l) (o_12f h (hq.mul (hl b (by simp)))) fun p hp=>hl p (by simp [hp])
theorem o_12h {e f:Nat} {next:St→Sp} {l:Sp} (h:∀p∈l,Gi e p.2) (hn:∀p∈l,∀q∈next p.1,Gi f q.2):∀p∈timesQ next l,Gi (e+f) p.2:=by
 have key:∀(k out:Sp),(∀p∈out,Gi (e+f) p.2)→(∀p∈k,Gi e p.2∧∀q∈next p.1,Gi f q.2)→∀p∈k.foldl (fun out a=>innQ a.2 out (atQ (next a.1))) out,Gi (e+f) p.2:=by
  intro k
  induction k with
  | nil=>intro out h _;exact h
  | cons a k ih =>
   intro out ho hk
   obtain ⟨h1,h2⟩:=hk a (by simp)
   exact ih _ (o_12g h1 ho fun p hp=>h2 p (List.mem_filter.1 ((o_vn _).mem_iff.1 hp)).1) fun p hp=>hk p (by simp [hp])
 refine key _ _ (fun p hp=>by cases hp) fun p hp=>?_
 have hp':=(List.mem_filter.1 ((o_vn l).mem_iff.1 hp)).1
 exact ⟨h p hp',hn p hp'⟩
theorem o_12i {g h:St→Rat}:∀{l:Sp},(∀p∈l,g p.1=h p.1)→exQ g l=exQ h l
 | [],_=>rfl
 | p::l,hl=>by
  simp only [exQ]
  rw [hl p (by simp),o_12i (l:=l) fun q hq=>hl q (by simp [hq])]
theorem SpOK.times {e f:Nat} {P Q:St→Prop} {next:St→Sp} {l:Sp} (h:SpOK e P l) (hn:∀s,P s→SpOK f Q (next s)):SpOK (e+f) Q (timesQ next l) where
 uq:=o_vx _ _
 one:=by
  rw [o_vy,o_12i (h:=fun _=>1) fun p hp=>(hn _ (h.ky p hp)).one]
  exact h.one
 gi:=o_12h h.gi fun p hp=>(hn _ (h.ky p hp)).gi
 ky:=by
  have key:∀(k out:Sp),kyQ Q out→(∀p∈k,P p.1)→kyQ Q (k.foldl (fun out a=>innQ a.2 out (atQ (next a.1))) out):=by
   intro k
   induction k with
   | nil=>intro out h _;exact h
   | cons a k ih =>
    intro out ho hk
    exact ih _ (o_105 ho (ky_at (hn _ (hk a (by simp))).ky)) fun p hp=>hk p (by simp [hp])
  exact key _ _ (fun p hp=>by cases hp) fun p hp=>h.ky p (List.mem_filter.1 ((o_vn l).mem_iff.1 hp)).1
theorem o_12j (n:Nat):Gi n (mkRat 1 (2^n)):=⟨1,o_125 n⟩
theorem o_12k (n:Nat):Gi n (1-mkRat 1 (2^n)):=by
 refine ⟨2^n-1,?_⟩
 have h:=o_125 n
 have h1:=Nat.two_pow_pos n
 have e:((2^n:Nat):Rat)=((2^n-1:Nat):Rat)+((1:Nat):Rat):=by rw [←Rat.natCast_add,Nat.sub_add_cancel h1]
 have e1:((1:Nat):Rat)=1:=rfl
 rw [e1] at e
 grind
theorem SpOK.eit {e:Nat} {P:St→Prop} {x:Rat} {s o:St} (hx:Gi e x) (hy:Gi e (1-x)) (hs:P s) (ho:P o):SpOK e P (eitQ x s o) where
 uq:=(o_w0 (fun _=>0) x s o).1
 one:=by rw [(o_w0 (fun _=>1) x s o).2];grind
 gi:=o_12f (o_12f (fun p hp=>by cases hp) hx) hy
 ky:=fun p hp=>by
  unfold eitQ at hp
  rcases o_w2 hp with hp | rfl
  ·rcases o_w2 hp with hp | rfl
   ·cases hp
   ·exact hs
  ·exact ho
theorem SpOK.bin (s:St):SpOK s.1 (fun t=>t.1≤s.1∧t.2=(s.2.1+1,s.2.2)) (binQ s) where
 uq:=o_129 s _
 one:=by rw [o_12b,o_12c]
 gi:=by
  have key:∀i,i≤s.1+1→∀p∈binI s i,Gi s.1 p.2:=by
   intro i
   induction i with
   | zero=>intro _ p hp;cases hp
   | succ i ih =>
    intro hi
    refine o_12f (ih (by omega)) ?_
    have h:=(o_12j s.1)
    obtain ⟨z,hz⟩:=h
    refine ⟨wayQ s.1 i*z,?_⟩
    unfold binP
    rw [Rat.natCast_mul,←hz];grind
  exact key _ (Nat.le_refl _)
 ky:=fun p hp=>by
  have:=o_128 _ p hp
  exact ⟨by omega,this.2⟩
def downF (A:Nat):Nat→St→Sp
 | 0,s=>if s.1≤A then [(s,1)] else [((A,s.2.1,true),1)]
 | f+1,s=>if s.1≤A then [(s,1)] else timesQ (downF A f) (binQ s)
def downA (A B:Nat) (s:St):Sp:=downF A (B-s.2.1) s
theorem o_12l {next next':St→Sp} {l:Sp} (h:∀p∈l,next p.1=next' p.1):timesQ next l=timesQ next' l:=by
 have key:∀(k out:Sp),(∀p∈k,next p.1=next' p.1)→k.foldl (fun out a=>innQ a.2 out (atQ (next a.1))) out=k.foldl (fun out a=>innQ a.2 out (atQ (next' a.1))) out:=by
  intro k
  induction k with
  | nil=>intro out _;rfl
  | cons a k ih =>
   intro out hk
   rw [List.foldl_cons,List.foldl_cons,hk a (by simp)]
   exact ih _ fun p hp=>hk p (by simp [hp])
 exact key _ _ fun p hp=>h p (List.mem_filter.1 ((o_vn l).mem_iff.1 hp)).1
theorem o_12m {A B:Nat} {s:St} (h:s.1≤A):downA A B s=[(s,1)]:=by
 unfold downA
 generalize B-s.2.1=f
 cases f<;>simp [downF,h]
theorem o_12n {A B:Nat} {s:St} (h:¬s.1≤A) (hT:s.2.1=B):downA A B s=[((A,s.2.1,true),1)]:=by
 unfold downA
 rw [show B-s.2.1=0 by omega]
 simp [downF,h]
theorem o_12o {A B:Nat} {s:St} (h:¬s.1≤A) (hT:s.2.1<B):downA A B s=timesQ (downA A B) (binQ s):=by
 have e:downA A B s=timesQ (downF A (B-s.2.1-1)) (binQ s):=by
  unfold downA
  obtain ⟨f,hf⟩:∃f,B-s.2.1=f+1:=⟨B-s.2.1-1,by omega⟩
  rw [hf]
  simp [downF,h]
 rw [e]
 refine o_12l fun p hp=>?_
 have:=(o_128 _ p hp).2
 unfold downA
 rw [this]
 congr 1
def okT (A B:Nat) (s:St):Prop:=s.1≤A∧s.2.1≤B∧(s.2.2=true→s.2.1=B)
theorem SpOK.down {A B X:Nat}:∀(f:Nat) (s:St),s.2.1+f=B→s.1≤X→(s.2.2=true→s.2.1=B)→SpOK (X*f) (okT A B) (downA A B s)
 | 0,s,hT,hX,hf=>by
  by_cases h:s.1≤A
  ·rw [o_12m h];exact SpOK.sure s ⟨h,by omega,hf⟩ _
  ·rw [o_12n h (by omega)];exact SpOK.sure _ ⟨Nat.le_refl _,by simp only;omega,fun _=>by simp only;omega⟩ _
 | f+1,s,hT,hX,hf=>by
  by_cases h:s.1≤A
  ·rw [o_12m h];exact SpOK.sure s ⟨h,by omega,hf⟩ _
  ·rw [o_12o h (by omega)]
   have hb:=(SpOK.bin s).mono hX fun _ h=>h
   have:=hb.times (f:=X*f) (Q:=okT A B) (next:=downA A B) fun t ht=>SpOK.down f t (by rw [ht.2];simp only;omega) (by omega) (fun h2=>by
    rw [ht.2] at h2
    have:=hf h2
    omega)
   refine this.mono ?_ fun _ h=>h
   rw [Nat.mul_add];omega
def stepT (A B:Nat) (s:St):Sp:=timesQ (downA A B) (eitQ (mkRat 1 (2^s.2.1)) (s.1+1,s.2) s)
theorem SpOK.stepT {A B:Nat} {s:St} (h:okT A B s):SpOK (B+(A+1)*B) (okT A B) (stepT A B s):=by
 obtain ⟨h1,h2,h3⟩:=h
 have he:SpOK B (fun t=>t.1≤A+1∧t.2=s.2) (eitQ (mkRat 1 (2^s.2.1)) (s.1+1,s.2) s):=SpOK.eit ((o_12j _).up h2) ((o_12k _).up h2) ⟨by simp only;omega,rfl⟩ ⟨by omega,rfl⟩
 refine he.times fun t ht=>?_
 refine (SpOK.down (A:=A) (X:=A+1) (B-s.2.1) t (by rw [ht.2];omega) ht.1 (by rw [ht.2];exact h3)).mono (Nat.mul_le_mul_left _ (by omega)) fun _ h=>h
theorem SpOK.of {e:Nat} {P:St→Prop} {next:St→Sp} (hn:∀s,P s→SpOK e P (next s)) {s:St} (hs:P s):∀n,SpOK (n*e) P (ofQ next s n)
 | 0=>SpOK.sure s hs _
 | n+1=>by
  have:=(SpOK.of hn hs n).times hn
  rw [Nat.add_mul,Nat.one_mul]
  exact this
def thinQ (s:St) (n:Nat):Sp:=ofQ binQ s n
theorem SpOK.thin (s:St):∀n,SpOK (n*s.1) (fun t=>t.1≤s.1∧t.2=(s.2.1+n,s.2.2)) (thinQ s n)
 | 0=>SpOK.sure s ⟨Nat.le_refl _,rfl⟩ _
 | n+1=>by
  have:=(SpOK.thin s n).times (f:=s.1) (Q:=fun t=>t.1≤s.1∧t.2=(s.2.1+(n+1),s.2.2)) (next:=binQ) fun t ht=>(SpOK.bin t).mono ht.1 fun u hu=>⟨by omega,by rw [hu.2,ht.2];simp only [Nat.add_assoc]⟩
  rw [Nat.add_mul,Nat.one_mul]
  exact this
def joI (f:Bool) (x:St×Rat) (B:Sp) (out:Sp) (j:Nat):Sp:=(B.take j).foldl (fun out y=>addQ out (x.1.1+y.1.1,x.1.2.1,f) (x.2*y.2)) out
def joO (f:Bool) (A B:Sp) (i:Nat):Sp:=(A.take i).foldl (fun out x=>joI f x B out B.length) []
def joQ (f:Bool) (A B:Sp):Sp:=joO f A B A.length
theorem o_12p (f:Bool) (x:St×Rat) (B out:Sp) (j:Nat) (h:j<B.length):joI f x B out (j+1)=addQ (joI f x B out j) (x.1.1+B[j].1.1,x.1.2.1,f) (x.2*B[j].2):=by
 unfold joI;rw [List.take_add_one,List.getElem?_eq_getElem h,Option.toList,List.foldl_append];rfl
theorem o_12q (f:Bool) (A B:Sp) (i:Nat) (h:i<A.length):joO f A B (i+1)=joI f A[i] B (joO f A B i) B.length:=by
 unfold joO;rw [List.take_add_one,List.getElem?_eq_getElem h,Option.toList,List.foldl_append];rfl
def mgT (A B:Nat) (s o:St):Sp:=timesQ (downA A B) (joQ (s.2.2 || o.2.2) (atQ (thinQ s (o.2.1-s.2.1))) (atQ (thinQ o (s.2.1-o.2.1))))
theorem o_12r (g:St→Rat) (f:Bool) (x:St×Rat) (B:Sp):∀(j:Nat) (out:Sp),j≤B.length→Uq out→Uq (joI f x B out j)∧exQ g (joI f x B out j)=exQ g out+x.2*exQ (fun t=>g (x.1.1+t.1,x.1.2.1,f)) (B.take j)
 | 0,out,_,h=>⟨h,by simp only [joI,List.take_zero,List.foldl_nil,exQ];grind⟩
 | j+1,out,hj,h=>by
  obtain ⟨h1,h2⟩:=o_12r g f x B j out (by omega) h
  rw [o_12p f x B out j (by omega)]
  refine ⟨o_vd h1,?_⟩
  rw [o_ve g _ _ _ h1,h2,List.take_add_one,List.getElem?_eq_getElem (by omega:j<B.length),Option.toList,o_vg]
  simp only [exQ];grind
theorem o_12s (g:St→Rat) (f:Bool) (A B:Sp):∀i,i≤A.length→Uq (joO f A B i)∧exQ g (joO f A B i)=exQ (fun s=>exQ (fun t=>g (s.1+t.1,s.2.1,f)) B) (A.take i)
 | 0,_=>by simp [joO,Uq,exQ]
 | i+1,hi=>by
  obtain ⟨h1,h2⟩:=o_12s g f A B i (by omega)
  rw [o_12q f A B i hi]
  obtain ⟨h3,h4⟩:=o_12r g f A[i] B B.length (joO f A B i) (Nat.le_refl _) h1
  refine ⟨h3,?_⟩
  rw [h4,h2,List.take_length,List.take_add_one,List.getElem?_eq_getElem (by omega:i<A.length),Option.toList,o_vg]
  simp only [exQ];grind
theorem o_12t (g:St→Rat) (f:Bool) (A B:Sp):exQ g (joQ f A B)=exQ (fun s=>exQ (fun t=>g (s.1+t.1,s.2.1,f)) B) A:=by
 have:=(o_12s g f A B A.length (Nat.le_refl _)).2
 rw [List.take_length] at this
 exact this
theorem SpOK.at {e:Nat} {P:St→Prop} {l:Sp} (h:SpOK e P l):SpOK e P (atQ l) where
 uq:=o_vq h.uq
 one:=by rw [o_vo];exact h.one
 gi:=fun p hp=>h.gi p (List.mem_filter.1 ((o_vn l).mem_iff.1 hp)).1
 ky:=ky_at h.ky
theorem SpOK.join {e f:Nat} {P Q R:St→Prop} {A B:Sp} {b:Bool} (hA:SpOK e P A) (hB:SpOK f Q B) (hR:∀s t,P s→Q t→R (s.1+t.1,s.2.1,b)):SpOK (e+f) R (joQ b A B) where
 uq:=(o_12s (fun _=>0) b A B A.length (Nat.le_refl _)).1
 one:=by
  rw [o_12t,o_12i (h:=fun _=>1) fun p _=>hB.one]
  exact hA.one
 gi:=by
  have h1:∀(x:St×Rat),x∈A→∀(j:Nat) (out:Sp),j≤B.length→(∀p∈out,Gi (e+f) p.2)→∀p∈joI b x B out j,Gi (e+f) p.2:=by
   intro x hx j
   induction j with
   | zero=>intro out _ h p hp;exact h p (by simpa [joI] using hp)
   | succ j ih =>
    intro out hj h
    rw [o_12p b x B out j (by omega)]
    exact o_12f (ih out (by omega) h) ((hA.gi x hx).mul (hB.gi _ (List.getElem_mem _)))
  have h2:∀i,i≤A.length→∀p∈joO b A B i,Gi (e+f) p.2:=by
   intro i
   induction i with
   | zero=>intro _ p hp;simp [joO] at hp
   | succ i ih =>
    intro hi
    rw [o_12q b A B i hi]
    exact h1 _ (List.getElem_mem _) _ _ (Nat.le_refl _) (ih (by omega))
  exact h2 _ (Nat.le_refl _)
 ky:=by
  have h1:∀(x:St×Rat),x∈A→∀(j:Nat) (out:Sp),j≤B.length→kyQ R out→kyQ R (joI b x B out j):=by
   intro x hx j
   induction j with
   | zero=>intro out _ h p hp;exact h p (by simpa [joI] using hp)
   | succ j ih =>
    intro out hj h
    rw [o_12p b x B out j (by omega)]
    intro p hp
    rcases o_w2 hp with hp | rfl
    ·exact ih out (by omega) h p hp
    ·exact hR _ _ (hA.ky x hx) (hB.ky _ (List.getElem_mem _))
  have h2:∀i,i≤A.length→kyQ R (joO b A B i):=by
   intro i
   induction i with
   | zero=>intro _ p hp;simp [joO] at hp
   | succ i ih =>
    intro hi
    rw [o_12q b A B i hi]
    exact h1 _ (List.getElem_mem _) _ _ (Nat.le_refl _) (ih (by omega))
  exact h2 _ (Nat.le_refl _)
theorem SpOK.mgT {A B:Nat} {s o:St} (hs:okT A B s) (ho:okT A B o):SpOK (B*A+B*A+(A+A)*B) (okT A B) (mgT A B s o):=by
 obtain ⟨s1,s2,s3⟩:=hs
 obtain ⟨o1,o2,o3⟩:=ho
 have ha:=(SpOK.thin s (o.2.1-s.2.1)).at.mono (f:=B*A) (Nat.mul_le_mul (by omega) s1) fun _ h=>h
 have hb:=(SpOK.thin o (s.2.1-o.2.1)).at.mono (f:=B*A) (Nat.mul_le_mul (by omega) o1) fun _ h=>h
 have hj:=ha.join (R:=fun t=>t.1≤A+A∧t.2=(max s.2.1 o.2.1,s.2.2 || o.2.2)) (b:=s.2.2 || o.2.2) hb fun t u ht hu=>⟨by simp only;omega,by simp only [ht.2,Prod.mk.injEq,and_true];omega⟩
 refine hj.times fun t ht=>?_
 refine (SpOK.down (A:=A) (X:=A+A) (B-max s.2.1 o.2.1) t (by rw [ht.2];simp only;omega) ht.1 (by
  rw [ht.2]
  simp only [Bool.or_eq_true]
  rintro (h | h)
  ·have:=s3 h;omega
  ·have:=o3 h;omega)).mono (Nat.mul_le_mul_left _ (by omega)) fun _ h=>h
end
section
open Go.RowKit
section
variable {top:Nat} {c V:Nat→Rat}
end
end
section
open Go.RowKit
section
variable {V:St→Rat} {l:Sp} (h0:∀p∈l,0≤p.2)
 include h0
end
end
section
open Go.RowKit
theorem o_12u:rD 0 = .agg [natW 0,.bool false,natW 0]:=by rfl
theorem sub_zero:Sub1 (.d (.agg [.nilsl,.bool false,.nilsl])) (.d (rD 0)):=by
 rw [o_12u]
 exact Sub1.aggd (Subs.cons Sub1.nil (Subs.cons (Sub1.refl _) (Subs.cons Sub1.nil (Subs.refl _))))
end
section
open Go.RowKit
end
section
open Go.RowKit
def vlQ (k a w:Nat) (s:St):Rat:=valR k a w s.1 s.2.1
end
section
open Go.RowKit
theorem o_12v:∀{l:Sp},Uq l→∀p∈l,getQ l p.1=p.2
 | q::l,hu,p,hp=>by
  unfold Uq at hu
  rw [List.map_cons,List.nodup_cons] at hu
  unfold getQ
  rcases List.mem_cons.1 hp with rfl | hp
  ·simp
  ·rw [if_neg fun e=>hu.1 (List.mem_map.2 ⟨p,hp,e⟩)]
   exact o_12v hu.2 p hp
theorem o_12w:∀{l:Sp} {t:St},getQ l t≠0→(t,getQ l t)∈l
 | [],t,h=>by simp [getQ] at h
 | q::l,t,h=>by
  unfold getQ at h ⊢
  split
  ·rename_i e
   simp [e]
  ·rename_i e
   rw [if_neg e] at h
   exact List.mem_cons_of_mem _ (o_12w h)
end
section
open Go.RowKit
end
section
open Go.RowKit
end
section
open Go.RowKit
end
section
open Go.RowKit
end
section
open Go.RowKit
end
section
open Go.RowKit
end
section
open Go.RowKit
end
section
open Go.RowKit
def grB (D C:Nat) (q:Rat):Bool:=(q*(D:Rat)).den==1&&decide (0≤(q*(D:Rat)).num)&&decide ((q*(D:Rat)).num.toNat≤C*D)
theorem o_12x {D C:Nat} {q:Rat} (h:grB D C q=true):Gr D C q:=by
 unfold grB at h
 simp only [Bool.and_eq_true,beq_iff_eq,decide_eq_true_eq] at h
 obtain ⟨⟨h1,h2⟩,h3⟩:=h
 refine ⟨(q*(D:Rat)).num.toNat,?_,h3⟩
 generalize q*(D:Rat)=y at *
 have h4:((y.num.toNat:Nat):Int)=y.num:=Int.toNat_of_nonneg h2
 refine Rat.ext ?_ ?_
 ·rw [Rat.num_natCast,h4]
 ·rw [Rat.den_natCast,h1]
def valAll:Bool:=[(1,1),(1,2),(1,3),(1,4),(2,0),(2,1),(3,1),(3,2)].all fun z=>(List.range 16).all fun x=>grB (12^15) (2^24) (valC z.1 z.2 x)
theorem o_12y:valAll=true:=by kernel_rfl
theorem o_12z {k a w:Nat} (h:GoodS k a w) (x:Nat) (hx:x≤15):Gr (12^15) (2^24) (valC k a x):=by
 have h1:=o_12y
 unfold valAll at h1
 rw [List.all_eq_true] at h1
 have h2:=h1 (k,a) (by
  rcases h.1 with ⟨rfl,h2,h3⟩ | ⟨rfl,h2⟩ | ⟨rfl,h2,h3⟩
  ·have:a=1∨a=2∨a=3∨a=4:=by omega
   rcases this with rfl | rfl | rfl | rfl<;>simp
  ·have:a=0∨a=1:=by omega
   rcases this with rfl | rfl<;>simp
  ·have:a=1∨a=2:=by omega
   rcases this with rfl | rfl<;>simp)
 rw [List.all_eq_true] at h2
 exact o_12x (h2 x (List.mem_range.2 (by omega)))
end
section
open Go.RowKit
structure LsOK (k a w:Nat) (L:Sp) (D C E V:Nat):Prop where
 len:L.length≤1000
 one:exQ (fun _=>1) L=1
 dp:0<D
 cp:1≤C
 ep:0<E
 vp:1≤V
 sd:size D≤220
 sc:size C≤70
 se:size E≤2
 sv:size V≤2
 well:∀p∈L,WellR k a w p.1.1 p.1.2.1 p.1.2.2
 gr:∀p∈L,Gr D C p.2
 vg:∀p∈L,Gr E V (vlQ k a w p.1)
theorem Gr.nn {D B:Nat} {q:Rat} (hD:0<D) (h:Gr D B q):0≤q:=by
 obtain ⟨z,h1,-⟩:=h
 have hp:(0:Rat)<(D:Rat):=by exact_mod_cast hD
 apply Classical.byContradiction
 intro hn
 have hz:(0:Rat)≤(z:Rat):=by exact_mod_cast Nat.zero_le z
 have:=Rat.mul_lt_mul_of_pos_right (Rat.not_le.1 hn) hp
 grind
theorem LsOK.nn {k a w:Nat} {L:Sp} {D C E V:Nat} (h:LsOK k a w L D C E V):∀p∈L,0≤p.2:=fun p hp=>(h.gr p hp).nn h.dp
theorem o_130 {k a w:Nat} (h:GoodS k a w) {s:St} (hs:okQ (topC w) s) (n:Nat) (hn:n≤15):∃D C E V,LsOK k a w (atQ (dstQ k a w s n)) D C E V:=by
 have h8:2^w≤16:=Nat.pow_le_pow_right (n:=2) (by omega) h.2.2
 have h7:topC w≤15:=by unfold topC;omega
 have hk4:¬k=4:=by have:=h.1;omega
 obtain ⟨c0,c1⟩:=o_10c h
 obtain ⟨G0,hG,hG63,hc⟩:=o_zm h
 have mem:∀p∈atQ (dstQ k a w s n),p∈dstQ k a w s n:=fun p hp=>(List.mem_filter.1 ((o_vn _).mem_iff.1 hp)).1
 have okA:oklQ (topC w) (atQ (dstQ k a w s n)):=o_w5 (o_w9 (c:=chP k a) c0 c1 hs n)
 have hl:=o_11c (o_vz _ s n) (o_108 (c:=chP k a) hs n)
 refine ⟨G0^n,80^n,12^15,2^24,?_,?_,Nat.pow_pos hG,Nat.pow_pos (by decide),by decide,by decide,?_,?_,?_,?_,fun p hp=>wellQ h (okA p hp).1,fun p hp=>o_11d h7 c0 c1 (fun x hx=>hc x (by omega)) hs n p (mem p hp),fun p hp=>?_⟩
 ·have:=o_zw (dstQ k a w s n)
  have:(dstQ k a w s n).length≤topC w+2:=hl
  omega
 ·rw [o_vo];exact o_wa _ _
 ·have:=o_10a G0 (o_md (Nat.lt_of_le_of_lt hG63 (by decide))) n;omega
 ·have:=o_10a 80 (o_md (by decide)) n;omega
 ·exact Nat.le_trans (o_md (by decide)) (by omega)
 ·exact Nat.le_trans (o_md (by decide)) (by omega)
 ·have:=(okA p hp).1.1
  show Gr _ _ (valR k a w p.1.1 p.1.2.1)
  unfold valR
  rw [if_neg hk4]
  exact o_12z h _ (by omega)
theorem o_131 {n V:Nat} (h:n≤V):Gr 1 V ((n:Nat):Rat):=⟨n,by rw [show ((1:Nat):Rat)=1 from rfl,Rat.mul_one],by omega⟩
end
section
open Go.RowKit
theorem o_132 (n:Nat) (hn:n≤8192):Eqn Tryz.prog o_d4 [.d (.int .i64 n)] [] (.d (rD (mkRat 1 (2^n)))) []:=by
 refine Eqn.pure o_d6 Plain.ok ?_
 have hh:=o_ra n (by omega)
 rw [show D.agg [natW 1,.bool false,natW (2^n-1)]=rD (mkRat 1 (2^n)) from o_xd n] at hh
 obtain ⟨A1,A2,A3,hA⟩:∃A1 A2 A3,rD (mkRat 1 (2^n)) = .agg [A1,A2,A3]:=⟨_,_,_,rfl⟩
 rw [hA] at hh ⊢
 refine cc (c':=?z218) ?_ ?_
 case refine_1=>cbv<;>exact rfl
 refine A00 ?_;try with_reducible exact tt
 refine CallS.pu (hh) (R0 ?_);try with_reducible exact tt
theorem o_133 (n:Nat):size (2^n)≤n+1:=o_10a 2 (o_md (by decide)) n
theorem Gi.rs {e:Nat} {x:Rat} (h:Gi e x) (h1:x≤1) (he:e≤90000):RS x 90001:=(h.gr h1).rs (Nat.two_pow_pos e) (Nat.le_refl _) (by rw [Nat.one_mul];have:=o_133 e;omega)
theorem SpOK.rs {e:Nat} {P:St→Prop} {l:Sp} (h:SpOK e P l) (he:e≤90000):∀p∈l,RS p.2 100000:=fun p hp=>((h.gi p hp).rs (o_12d h.nn (by rw [h.one];exact Rat.le_refl) p hp) he).le (by omega)
theorem o_134 {s:St}:∀{l:Sp},(∀p∈l,p.1≠s)→getQ l s=0
 | [],_=>rfl
 | p::l,h=>by
  unfold getQ
  rw [if_neg fun e=>h p (by simp) e.symm]
  exact o_134 fun q hq=>h q (by simp [hq])
theorem o_135 {K k:Nat} (hK:K≤1000) (hk:k≤K):RS (binP K k) 100000:=by
 have h1:Gi K (binP K k):=by
  obtain ⟨z,hz⟩:=o_12j K
  refine ⟨wayQ K k*z,?_⟩
  unfold binP
  rw [Rat.natCast_mul,←hz];grind
 have h2:binP K k≤1:=by
  unfold binP
  rw [o_123 K k (by omega)]
  have hp:=o_125 K
  have h0:(0:Rat)≤mkRat 1 (2^K):=(o_12j K).nn
  have h3:((chs K k:Nat):Rat)≤((2^K:Nat):Rat):=by exact_mod_cast o_121 K k
  have:=Rat.mul_le_mul_of_nonneg_right h3 h0
  grind
 exact (h1.rs h2 (by omega)).le (by omega)
set_option maxHeartbeats 4000000 in
theorem o_136 (s:St) (hK:s.1≤1000) (hT:s.2.1≤1000):Eqn Tryz.prog o_fq [.d (.agg (stD s))] [] (.mp 0) [spO (binQ s)]:=by
 obtain ⟨K,T,f⟩:=s
 simp only at hK hT
 refine Eqn.gen [1] o_fs (by simp) (by simp) (by rfl) (by decide) (by simp) (by simp [spO]) ?_
 have hof:∀y:Nat,y<2^60→Eqn Tryz.prog o_e5 [.d (.sl 1 [.int .u64 y])] [] (.d (.agg [natW y])) []:=fun y hy=>by
  have:=o_lc [y] (o_m7 (by omega)) (by simp)
  simpa [W,wval] using this
 have ho1:=hof 1 (by omega)
 have hh:=o_132 K (by omega)
 have eT:IntKind.i64.wrap ((T:Int)+1)=((T+1:Nat):Int):=by rw [w64 (by omega) (by omega)];omega
 refine cc (c':=?z219) ?_ ?_
 case refine_1=>cbv<;>exact rfl
 try simp only [stD,spO,o_x5] at hh ⊢
 refine A00 ?_;try with_reducible exact tt
 refine CallS.pf 2 1 ⟨136,_⟩ [.int .u64 (1:Nat)] (ho1) (by first | rfl | (simp;done)) (R0 ?_);try with_reducible exact tt
 refine A00 ?_;try with_reducible exact tt
 refine AW.loopW (α:=Nat) (fun k=>setS (List.replicate 50 .junk) [(1,.p 0 0),(3,.mp 1),(4,.p 3 0),(5,.d (.int .i64 (k:Nat)))]) (fun k=>[some ⟨35,[.d (.int .i64 K),.d (.int .i64 T),.d (.bool f)]⟩,some ⟨1000391,(spD rcD (binI (K,T,f) k)).map .d⟩,none,some ⟨47,[.d (natW (wayQ K k))]⟩]) (fun k=>k≤K+1) (fun k=>K+1-k) 4 (fun _=>rfl) (Nat.zero_le _) 0 (Nat.zero_le _) ?_ ?_ ?_
 ·simp
 ·simp [binI,wayQ,spD]
 rintro k hk
 simp
 by_cases hk2:k≤K
 ·have hk3:(k:Int)≤K:=by omega
  have ew:IntKind.i64.wrap ((k:Int)+1)=((k+1:Nat):Int):=by rw [w64 (by omega) (by omega)];omega
  have es:IntKind.i64.wrap ((K:Int)-k)=((K-k:Nat):Int):=by rw [w64 (by omega) (by omega)];omega
  have eu:IntKind.u64.wrap ((K-k:Nat):Int)=((K-k:Nat):Int):=wu64 (by omega) (by omega)
  have eu2:IntKind.u64.wrap ((k+1:Nat):Int)=((k+1:Nat):Int):=wu64 (by omega) (by omega)
  have hw:size (wayQ K k)≤1001:=by
   rw [o_123 K k (by omega)]
   have:=o_lw (o_121 K k)
   have:=o_133 K
   omega
  have hrn:=o_t3 (wayQ K k)
  have s1:RS ((wayQ K k:Nat):Rat) 100000:=by
   have hg:Gr 1 (2^K) ((wayQ K k:Nat):Rat):=⟨wayQ K k,by rw [show ((1:Nat):Rat)=1 from rfl,Rat.mul_one],by rw [o_123 K k (by omega),Nat.mul_one];exact o_121 K k⟩
   exact hg.rs (by decide) (Nat.two_pow_pos K) (by rw [Nat.mul_one];have:=o_133 K;omega)
  have s2:RS (mkRat 1 (2^K)) 100000:=by
   have h1:RS (mkRat 1 (2^K)) 1001:=RS.mk' (Nat.two_pow_pos K) (Nat.le_trans (o_md (by decide)) (by omega)) (by have:=o_133 K;omega)
   exact h1.le (by omega)
  have hm:=o_sy ((wayQ K k:Nat):Rat) (mkRat 1 (2^K)) s1 s2
  rw [show ((wayQ K k:Nat):Rat)*mkRat 1 (2^K)=binP K k from rfl] at hm
  have hgt:getQ (binI (K,T,f) k) (k,T+1,f)=0:=o_134 fun p hp e=>by
   have:=(o_128 k p hp).1
   rw [e] at this
   simp only at this
   omega
  have hadd:=o_x8 (binI (K,T,f) k) (k,T+1,f) (binP K k) (by rw [hgt];exact ⟨by decide,by decide⟩) (o_135 hK hk2)
  rw [show addQ (binI (K,T,f) k) (k,T+1,f) (binP K k)=binI (K,T,f) (k+1) from rfl] at hadd
  have hsk:size (K-k)≤1:=o_md (by omega)
  have hmu:=o_r0 (wayQ K k) (K-k) (by omega) (by omega)
  have hdv:=o_r6 (wayQ K k*(K-k)) (k+1) (by have:=o_sk (wayQ K k) (K-k);omega) (by omega) (.inl (by omega)) (Nat.le_trans (o_md (by omega)) (by omega))
  have ho2:=hof (K-k) (by omega)
  have ho3:=hof (k+1) (by omega)
  rw [show wayQ K k*(K-k)/(k+1)=wayQ K (k+1) from rfl] at hdv
  obtain ⟨A1,A2,A3,hA⟩:∃A1 A2 A3,rcD ((wayQ K k:Nat):Rat)=[A1,A2,A3]:=⟨_,_,_,rfl⟩
  obtain ⟨H1,H2,H3,hH⟩:∃H1 H2 H3,rcD (mkRat 1 (2^K))=[H1,H2,H3]:=⟨_,_,_,rfl⟩
  obtain ⟨B1,B2,B3,hB⟩:∃B1 B2 B3,rcD (binP K k)=[B1,B2,B3]:=⟨_,_,_,rfl⟩
  simp only [o_x5,stD,spO] at hrn hm hadd
  rw [hA] at hrn hm
  rw [hH] at hm hh
  rw [hB] at hm hadd
  obtain ⟨M,hM⟩:∃M,M=wayQ K k*(K-k):=⟨_,rfl⟩
  rw [←hM] at hmu hdv
  obtain ⟨R,hR⟩:∃R,R=M%(k+1):=⟨_,rfl⟩
  rw [←hR] at hdv
  obtain ⟨WN,hWN⟩:∃WN,WN=wayQ K (k+1):=⟨_,rfl⟩
  rw [←hWN] at hdv
  generalize wayQ K k=WK at *
  obtain ⟨k1,hk1⟩:∃k1,k1=k+1:=⟨_,rfl⟩
  obtain ⟨T1,hT1⟩:∃T1,T1=T+1:=⟨_,rfl⟩
  obtain ⟨Kk,hKk⟩:∃Kk,Kk=K-k:=⟨_,rfl⟩
  rw [←hT1] at hadd eT
  rw [←hk1] at hdv ho3 eu2 ew hadd
  rw [←hKk] at hmu ho2 eu es
  refine A10 (fs hk2 (fs hk3 eT)) ?_;try with_reducible exact tt
  refine CallS.pu (hrn) (R0 ?_);try with_reducible exact tt
  refine CallS.pu (hh) (R0 ?_);try with_reducible exact tt
  refine CallS.pu (hm) (R0 ?_);try with_reducible exact tt
  have eK:(K:Int)-k=(Kk:Int):=by omega
  have ek:(k:Int)+1=(k1:Int):=by omega
  refine CallS.g [1] (hadd) (R1 (fs es eu) ?_);try with_reducible exact tt
  refine A10 (fs es (fs eu eK)) ?_;try with_reducible exact tt
  refine CallS.pf 4 1 ⟨136,_⟩ [.int .u64 Kk] (ho2) (by first | rfl | (simp [eK];done)) (R1 eK ?_);try with_reducible exact tt
  refine CallS.pu (hmu) (R1 (fs ew eu2) ?_);try with_reducible exact tt
  refine A10 (fs ew (fs eu2 ek)) ?_;try with_reducible exact tt
  refine CallS.pf 5 1 ⟨136,_⟩ [.int .u64 k1] (ho3) (by first | rfl | (simp [ek];done)) (R1 ek ?_);try with_reducible exact tt
  refine CallS.pu (hdv) (R0 ?_);try with_reducible exact tt
  refine A10 (fs ew ek) ?_;try with_reducible exact tt
  refine ⟨k1,by omega,by omega,?_,?_⟩
  ·exact Sub1.int (by omega)
  ·rw [hk1,←hWN];exact ⟨Subs.refl _,Subs.refl _⟩
 ·have h2:k=K+1:=by omega
  subst h2
  have h3:¬(K:Int)+1≤K:=by omega
  have h4:((K+1:Nat):Int)=(K:Int)+1:=by omega
  have h5:¬K+1≤K:=by omega
  refine A10 (fs h3 (fs h4 h5)) ?_;try with_reducible exact tt
  exact Subs.refl _
end
section
open Go.RowKit
structure NextJ (next:St→Sp) (G J:Nat) (s:St):Prop where
 uq:Uq (next s)
 nz:nzQ (next s)≠[]
 len:(next s).length≤J
 j6:J≤1000000
 gr:∀p∈next s,Gr G 1 p.2
set_option maxHeartbeats 4000000 in
theorem o_137 {f:FuncId} {next:St→Sp} {T1:TypeId} {x0 x1 x2:D} (ho1:T1<1000000) (P:St→Prop) (l:Sp) (G D B L J CP:Nat) (hu:Uq l) (hok:∀p∈nzQ l,P p.1) (hnz:nzQ l≠[]) (h12:(nzQ l).length≤L) (hl:l.length≤1000000) (hD:0<D) (hB:1≤B) (hgl:∀p∈l,Gr D B p.2) (hG:0<G) (hf:∀s:St,P s→NextJ next G J s∧Eqn Tryz.prog f [.d (.agg (stD s)),.p 0 0] [⟨T1,[.d x0,.d x1,.d x2]⟩] (.mp 1) [⟨T1,[.d x0,.d x1,.d x2]⟩,spO (next s)]) (hsz:size (CP*(D*G))≤100000) (hCP:L*J*B≤CP) (hJ:1≤J) :
  Eqn Tryz.prog o_aa [.mp 0,.fn (.func f) [.p 1 0]] [spO l,⟨T1,[.d x0,.d x1,.d x2]⟩] (.mp 2) [spO l,⟨T1,[.d x0,.d x1,.d x2]⟩,spO (timesQ next l)]:=by
 refine Eqn.gen [0,1,2] o_ac (by simp) (by simp) (by rfl) (by decide) (by simp) (by simp [spO,ho1]) ?_
 obtain ⟨A,hA⟩:∃A,A=atQ l:=⟨_,rfl⟩
 have hAl:A.length≤L:=by rw [hA,(o_vn l).length_eq];exact h12
 have hAm6:A.length≤1000000:=Nat.le_trans (hA▸o_zw l) hl
 have hA0:1≤A.length:=by
  rw [hA,(o_vn l).length_eq]
  rcases Nat.eq_zero_or_pos (nzQ l).length with e | e
  ·exact absurd (List.eq_nil_of_length_eq_zero e) hnz
  ·exact e
 have hAm:∀p∈A,p∈l:=fun p hp=>(List.mem_filter.1 ((o_vn l).mem_iff.1 (hA▸hp))).1
 have hAz:∀p∈A,p∈nzQ l:=fun p hp=>(o_vn l).mem_iff.1 (hA▸hp)
 have hDG:0<D*G:=Nat.mul_pos hD hG
 have hBC:B≤CP:=by
  refine Nat.le_trans ?_ hCP
  have:1≤L*J:=Nat.mul_pos (by omega) hJ
  exact Nat.le_mul_of_pos_left B this
 have hBD:size (B*D)≤100000:=by
  refine Nat.le_trans (o_lw ?_) hsz
  exact Nat.mul_le_mul hBC (Nat.le_mul_of_pos_right D hG)
 have hat:=o_ze l hu hnz hl (fun p hp=>(hgl p hp).rs hD hB hBD)
 have hGs:size (1*G)≤100000:=by
  refine Nat.le_trans (o_lw ?_) hsz
  rw [Nat.one_mul]
  exact Nat.le_trans (Nat.le_mul_of_pos_left G hD) (Nat.le_mul_of_pos_left _ (by omega))
 have hgn:∀s:St,P s→∀p∈next s,Gr G 1 p.2:=fun s hs=>(hf s hs).1.gr
 have hnl:∀s:St,P s→(atQ (next s)).length≤J:=fun s hs=>Nat.le_trans (o_zw _) (hf s hs).1.len
 have hnl6:∀s:St,P s→(atQ (next s)).length≤1000000:=fun s hs=>Nat.le_trans (hnl s hs) (hf s hs).1.j6
 have hout:=o_zs (D:=D) (E:=G) (B:=B) (J:=J) (next:=next) (A:=A) (fun p hp=>hgl p (hAm p hp)) (fun p hp=>⟨hgn p.1 (hok p (hAz p hp)),hnl p.1 (hok p (hAz p hp))⟩)
 have hon:=o_zo next A
 have hoa:outQ next A A.length=timesQ next l:=by rw [hA];exact o_zp next l
 have hADl:=o_v5 rcD (fun _=>rfl) A
 have hget:=o_zy A
 rw [←hoa]
 rw [←hA] at hat
 have hcl:∀s:St,P s→Eqn Tryz.prog f [.d (.agg (stD s)),.p 0 0] [⟨T1,[.d x0,.d x1,.d x2]⟩] (.mp 1) [⟨T1,[.d x0,.d x1,.d x2]⟩,spO (next s)]∧Eqn Tryz.prog o_aj [.mp 0] [spO (next s)] (.d (.sl (atQ (next s)).length (spD rcD (atQ (next s))))) [spO (next s)]:=fun s hs=>by
  obtain ⟨hn,hh⟩:=hf s hs
  exact ⟨hh,o_ze _ hn.uq hn.nz (Nat.le_trans hn.len hn.j6) fun p hp=>(hgn s hs p hp).rs hG (Nat.le_refl _) hGs⟩
 have hAok:∀p∈A,P p.1:=fun p hp=>hok p (hAz p hp)
 clear hA hoa hnz hf
 refine cc (c':=?z220) ?_ ?_
 case refine_1=>cbv<;>exact rfl
 try simp only [spO] at hat hcl ⊢
 generalize hLl:spD rcD l=LL at *
 refine A00 ?_;try with_reducible exact tt
 refine CallS.g [0] (hat) (R0 ?_);try with_reducible exact tt
 refine AW.loopG (α:=Nat) (fun i=>setS (List.replicate 40 .junk) [(1,.fn (.func f) [.p 1 0]),(5,.mp 2),(12,.d (.sl A.length (spD rcD A))),(13,.d (.int .i64 A.length)),(14,.d (.int .i64 (i:Nat)))]) (fun i=>[some ⟨1000391,LL.map .d⟩,some ⟨T1,[.d x0,.d x1,.d x2]⟩,some ⟨1000391,(spD rcD (outQ next A i)).map .d⟩]) (fun i=>i≤A.length) (fun i=>A.length-i) 0 ?_ (Nat.zero_le _) ?_ ?_ ?_
 ·intro i hi;simp
 ·simp
 ·simp [outQ,spD]
 rintro i hi
 simp
 by_cases hi2:i<A.length
 ·have hi3:(i:Int)<A.length:=by omega
  obtain ⟨s1,s2,s3,q,N1,N2,N3,hp,hN,hg⟩:=hget i hi2
  have hsk:=hAok _ (List.getElem_mem hi2)
  rw [hp] at hsk
  obtain ⟨hof,han⟩:=hcl (s1,s2,s3) hsk
  have hgq:Gr D B q:=by have:=hgl _ (hAm _ (List.getElem_mem hi2));rw [hp] at this;exact this
  have hon1:=hon i hi2
  rw [hp] at hon1
  simp only at hon1
  have hgo:=hout i hi
  have hn2:=hnl (s1,s2,s3) hsk
  have hgn2:=hgn (s1,s2,s3) hsk
  have hJ6:=(hnl6 (s1,s2,s3) hsk)
  obtain ⟨C,hC⟩:∃C,C=atQ (next (s1,s2,s3)):=⟨_,rfl⟩
  have hCm:∀p∈C,Gr G 1 p.2:=fun p hp=>hgn2 p (List.mem_filter.1 ((o_vn _).mem_iff.1 (hC▸hp))).1
  rw [←hC] at hon1 han hn2 hJ6
  have hCl:=o_v5 rcD (fun _=>rfl) C
  have hgetC:=o_zy C
  have ewi:IntKind.i64.wrap ((i:Int)+1)=((i+1:Nat):Int):=by rw [w64 (by omega) (by omega)];omega
  simp only [stD] at hof han
  generalize hNL:spD rcD (next (s1,s2,s3))=NL at *
  have hb6:i*6+6≤A.length*6:=by omega
  have hb7:i*6<A.length*6:=by omega
  refine A10 (fs hi2 (fs hi3 (fs hg (fs hADl (fs hb6 hb7))))) ?_;try with_reducible exact tt
  refine CallS.g [1] (hof) (R0 ?_);try with_reducible exact tt
  refine CallS.g [4] (han) (R0 ?_);try with_reducible exact tt
  refine AW.loopG (α:=Nat) (fun j=>setS (List.replicate 40 .junk) [(1,.fn (.func f) [.p 1 0]),(5,.mp 2),(7,.p 3 0),(12,.d (.sl A.length (spD rcD A))),(13,.d (.int .i64 A.length)),(14,.d (.int .i64 (i:Nat))),(22,.d (.sl C.length (spD rcD C))),(23,.d (.int .i64 C.length)),(24,.d (.int .i64 (j:Nat)))]) (fun j=>[some ⟨1000391,LL.map .d⟩,some ⟨T1,[.d x0,.d x1,.d x2]⟩,some ⟨1000391,(spD rcD (innQ q (outQ next A i) (C.take j))).map .d⟩,some ⟨54,[.d (.int .i64 s1),.d (.int .i64 s2),.d (.bool s3),.d N1,.d N2,.d N3]⟩]) (fun j=>j≤C.length) (fun j=>C.length-j) 0 ?_ (Nat.zero_le _) ?_ ?_ ?_
  ·intro j hj;simp
  ·simp
  ·simp [innQ]
  rintro j hj
  simp
  by_cases hj2:j<C.length
  ·have hj3:(j:Int)<C.length:=by omega
   obtain ⟨t1,t2,t3,r,M1,M2,M3,hpc,hM,hgc⟩:=hgetC j hj2
   have hinn:=o_zn q (outQ next A i) C j hj2
   have hgr:=hCm _ (List.getElem_mem hj2)
   rw [hpc] at hinn hgr
   simp only at hinn hgr
   have hqr:=hgq.mul hgr
   have hgi:=o_zr (q:=q) (B:=B) hgo (C.take j) (fun p hp=>by
    have:=hgq.mul (hCm p (List.mem_of_mem_take hp))
    rwa [Nat.mul_one] at this)
   have hget2:=(o_zq hgi (t1,t2,t3)).le (C:=CP) (by
    have e1:(C.take j).length≤j:=by rw [List.length_take];omega
    have e2:=Nat.mul_le_mul_right B e1
    have e3:(i*J+j)*B≤L*J*B:=Nat.mul_le_mul_right _ (by
     have:(i+1)*J≤L*J:=Nat.mul_le_mul_right J (by omega)
     rw [Nat.add_mul,Nat.one_mul] at this
     omega)
    rw [Nat.add_mul] at e3
    omega)
   have hq1:=hgq.rs hD hB hBD
   have hr1:=hgr.rs hG (Nat.le_refl _) hGs
   have hmul:=o_sy q r hq1 hr1
   have hadd:=o_x8 (innQ q (outQ next A i) (C.take j)) (t1,t2,t3) (q*r) (hget2.rs hDG (by omega) hsz) ((hqr.le (C:=CP) (by omega)).rs hDG (by omega) hsz)
   have ewj:IntKind.i64.wrap ((j:Int)+1)=((j+1:Nat):Int):=by rw [w64 (by omega) (by omega)];omega
   have hc6:j*6+6≤C.length*6:=by omega
   have hc7:j*6<C.length*6:=by omega
   rw [←hinn] at hadd
   rw [o_x5 q,o_x5 r,o_x5 (q*r),hN,hM] at hmul
   rw [o_x5 (q*r)] at hadd
   obtain ⟨P1,P2,P3,hP⟩:∃P1 P2 P3,rcD (q*r)=[P1,P2,P3]:=⟨_,_,_,rfl⟩
   rw [hP] at hmul hadd
   simp only [spO,stD] at hadd
   refine A10 (fs hj2 (fs hj3 (fs hgc (fs hCl (fs hc6 hc7))))) ?_;try with_reducible exact tt
   refine CallS.pu (hmul) (R0 ?_);try with_reducible exact tt
   refine CallS.g [2] (hadd) (R0 ?_);try with_reducible exact tt
   refine A10 ewj ?_;try with_reducible exact tt
   refine ⟨j+1,2,2,⟨by omega,by omega,by omega,by omega⟩,by omega,by omega,?_,?_⟩
   ·simp [swT,swH,sw,Ob.sw,V.ren,V.rens]
   ·simp [swT,swH,sw,Ob.sw,V.ren,V.rens]
  ·have h2:j=C.length:=by omega
   subst h2
   rw [List.take_length,←hon1]
   refine A00 ?_;try with_reducible exact tt
   refine A10 ewi ?_;try with_reducible exact tt
   refine ⟨i+1,2,2,⟨by omega,by omega,by omega,by omega⟩,by omega,by omega,?_,?_⟩
   ·simp [swT,swH,sw,Ob.sw,V.ren,V.rens]
   ·simp [swT,swH,sw,Ob.sw,V.ren,V.rens]
 ·have h2:i=A.length:=by omega
  subst h2
  refine A00 ?_;try with_reducible exact tt
set_option maxHeartbeats 4000000 in
theorem o_138 {f:FuncId} {next:St→Sp} (P:St→Prop) (l:Sp) (G D B L J CP:Nat) (hu:Uq l) (hok:∀p∈nzQ l,P p.1) (hnz:nzQ l≠[]) (h12:(nzQ l).length≤L) (hl:l.length≤1000000) (hD:0<D) (hB:1≤B) (hgl:∀p∈l,Gr D B p.2) (hG:0<G) (hf:∀s:St,P s→NextJ next G J s∧Eqn Tryz.prog f [.d (.agg (stD s))] [] (.mp 0) [spO (next s)]) (hsz:size (CP*(D*G))≤100000) (hCP:L*J*B≤CP) (hJ:1≤J) :
  Eqn Tryz.prog o_aa [.mp 0,.fn (.func f) []] [spO l] (.mp 1) [spO l,spO (timesQ next l)]:=by
 refine Eqn.gen [0,1] o_ac (by simp) (by simp) (by rfl) (by decide) (by simp) (by simp [spO]) ?_
 obtain ⟨A,hA⟩:∃A,A=atQ l:=⟨_,rfl⟩
 have hAl:A.length≤L:=by rw [hA,(o_vn l).length_eq];exact h12
 have hAm6:A.length≤1000000:=Nat.le_trans (hA▸o_zw l) hl
 have hA0:1≤A.length:=by
  rw [hA,(o_vn l).length_eq]
  rcases Nat.eq_zero_or_pos (nzQ l).length with e | e
  ·exact absurd (List.eq_nil_of_length_eq_zero e) hnz
  ·exact e
 have hAm:∀p∈A,p∈l:=fun p hp=>(List.mem_filter.1 ((o_vn l).mem_iff.1 (hA▸hp))).1
 have hAz:∀p∈A,p∈nzQ l:=fun p hp=>(o_vn l).mem_iff.1 (hA▸hp)
 have hDG:0<D*G:=Nat.mul_pos hD hG
 have hBC:B≤CP:=by
  refine Nat.le_trans ?_ hCP
  have:1≤L*J:=Nat.mul_pos (by omega) hJ
  exact Nat.le_mul_of_pos_left B this
 have hBD:size (B*D)≤100000:=by
  refine Nat.le_trans (o_lw ?_) hsz
  exact Nat.mul_le_mul hBC (Nat.le_mul_of_pos_right D hG)
 have hat:=o_ze l hu hnz hl (fun p hp=>(hgl p hp).rs hD hB hBD)
 have hGs:size (1*G)≤100000:=by
  refine Nat.le_trans (o_lw ?_) hsz
  rw [Nat.one_mul]
  exact Nat.le_trans (Nat.le_mul_of_pos_left G hD) (Nat.le_mul_of_pos_left _ (by omega))
 have hgn:∀s:St,P s→∀p∈next s,Gr G 1 p.2:=fun s hs=>(hf s hs).1.gr
 have hnl:∀s:St,P s→(atQ (next s)).length≤J:=fun s hs=>Nat.le_trans (o_zw _) (hf s hs).1.len
 have hnl6:∀s:St,P s→(atQ (next s)).length≤1000000:=fun s hs=>Nat.le_trans (hnl s hs) (hf s hs).1.j6
 have hout:=o_zs (D:=D) (E:=G) (B:=B) (J:=J) (next:=next) (A:=A) (fun p hp=>hgl p (hAm p hp)) (fun p hp=>⟨hgn p.1 (hok p (hAz p hp)),hnl p.1 (hok p (hAz p hp))⟩)
 have hon:=o_zo next A
 have hoa:outQ next A A.length=timesQ next l:=by rw [hA];exact o_zp next l
 have hADl:=o_v5 rcD (fun _=>rfl) A
 have hget:=o_zy A
 rw [←hoa]
 rw [←hA] at hat
 have hcl:∀s:St,P s→Eqn Tryz.prog f [.d (.agg (stD s))] [] (.mp 0) [spO (next s)]∧Eqn Tryz.prog o_aj [.mp 0] [spO (next s)] (.d (.sl (atQ (next s)).length (spD rcD (atQ (next s))))) [spO (next s)]:=fun s hs=>by
  obtain ⟨hn,hh⟩:=hf s hs
  exact ⟨hh,o_ze _ hn.uq hn.nz (Nat.le_trans hn.len hn.j6) fun p hp=>(hgn s hs p hp).rs hG (Nat.le_refl _) hGs⟩
 have hAok:∀p∈A,P p.1:=fun p hp=>hok p (hAz p hp)
 clear hA hoa hnz hf
 refine cc (c':=?z221) ?_ ?_
 case refine_1=>cbv<;>exact rfl
 try simp only [spO] at hat hcl ⊢
 generalize hLl:spD rcD l=LL at *
 refine A00 ?_;try with_reducible exact tt
 refine CallS.g [0] (hat) (R0 ?_);try with_reducible exact tt
 refine AW.loopG (α:=Nat) (fun i=>setS (List.replicate 40 .junk) [(1,.fn (.func f) []),(5,.mp 1),(12,.d (.sl A.length (spD rcD A))),(13,.d (.int .i64 A.length)),(14,.d (.int .i64 (i:Nat)))]) (fun i=>[some ⟨1000391,LL.map .d⟩,some ⟨1000391,(spD rcD (outQ next A i)).map .d⟩]) (fun i=>i≤A.length) (fun i=>A.length-i) 0 ?_ (Nat.zero_le _) ?_ ?_ ?_
 ·intro i hi;simp
 ·simp
 ·simp [outQ,spD]
 rintro i hi
 simp
 by_cases hi2:i<A.length
 ·have hi3:(i:Int)<A.length:=by omega
  obtain ⟨s1,s2,s3,q,N1,N2,N3,hp,hN,hg⟩:=hget i hi2
  have hsk:=hAok _ (List.getElem_mem hi2)
  rw [hp] at hsk
  obtain ⟨hof,han⟩:=hcl (s1,s2,s3) hsk
  have hgq:Gr D B q:=by have:=hgl _ (hAm _ (List.getElem_mem hi2));rw [hp] at this;exact this
  have hon1:=hon i hi2
  rw [hp] at hon1
  simp only at hon1
  have hgo:=hout i hi
  have hn2:=hnl (s1,s2,s3) hsk
  have hgn2:=hgn (s1,s2,s3) hsk
  have hJ6:=(hnl6 (s1,s2,s3) hsk)
  obtain ⟨C,hC⟩:∃C,C=atQ (next (s1,s2,s3)):=⟨_,rfl⟩
  have hCm:∀p∈C,Gr G 1 p.2:=fun p hp=>hgn2 p (List.mem_filter.1 ((o_vn _).mem_iff.1 (hC▸hp))).1
  rw [←hC] at hon1 han hn2 hJ6
  have hCl:=o_v5 rcD (fun _=>rfl) C
  have hgetC:=o_zy C
  have ewi:IntKind.i64.wrap ((i:Int)+1)=((i+1:Nat):Int):=by rw [w64 (by omega) (by omega)];omega
  simp only [stD] at hof han
  generalize hNL:spD rcD (next (s1,s2,s3))=NL at *
  have hb6:i*6+6≤A.length*6:=by omega
  have hb7:i*6<A.length*6:=by omega
  refine A10 (fs hi2 (fs hi3 (fs hg (fs hADl (fs hb6 hb7))))) ?_;try with_reducible exact tt
  refine CallS.nX (hof) (R0 ?_);try with_reducible exact tt
  refine CallS.g [3] (han) (R0 ?_);try with_reducible exact tt
  refine AW.loopG (α:=Nat) (fun j=>setS (List.replicate 40 .junk) [(1,.fn (.func f) []),(5,.mp 1),(7,.p 2 0),(12,.d (.sl A.length (spD rcD A))),(13,.d (.int .i64 A.length)),(14,.d (.int .i64 (i:Nat))),(22,.d (.sl C.length (spD rcD C))),(23,.d (.int .i64 C.length)),(24,.d (.int .i64 (j:Nat)))]) (fun j=>[some ⟨1000391,LL.map .d⟩,some ⟨1000391,(spD rcD (innQ q (outQ next A i) (C.take j))).map .d⟩,some ⟨54,[.d (.int .i64 s1),.d (.int .i64 s2),.d (.bool s3),.d N1,.d N2,.d N3]⟩]) (fun j=>j≤C.length) (fun j=>C.length-j) 0 ?_ (Nat.zero_le _) ?_ ?_ ?_
  ·intro j hj;simp
  ·simp
  ·simp [innQ]
  rintro j hj
  simp
  by_cases hj2:j<C.length
  ·have hj3:(j:Int)<C.length:=by omega
   obtain ⟨t1,t2,t3,r,M1,M2,M3,hpc,hM,hgc⟩:=hgetC j hj2
   have hinn:=o_zn q (outQ next A i) C j hj2
   have hgr:=hCm _ (List.getElem_mem hj2)
   rw [hpc] at hinn hgr
   simp only at hinn hgr
   have hqr:=hgq.mul hgr
   have hgi:=o_zr (q:=q) (B:=B) hgo (C.take j) (fun p hp=>by
    have:=hgq.mul (hCm p (List.mem_of_mem_take hp))
    rwa [Nat.mul_one] at this)
   have hget2:=(o_zq hgi (t1,t2,t3)).le (C:=CP) (by
    have e1:(C.take j).length≤j:=by rw [List.length_take];omega
    have e2:=Nat.mul_le_mul_right B e1
    have e3:(i*J+j)*B≤L*J*B:=Nat.mul_le_mul_right _ (by
     have:(i+1)*J≤L*J:=Nat.mul_le_mul_right J (by omega)
     rw [Nat.add_mul,Nat.one_mul] at this
     omega)
    rw [Nat.add_mul] at e3
    omega)
   have hq1:=hgq.rs hD hB hBD
   have hr1:=hgr.rs hG (Nat.le_refl _) hGs
   have hmul:=o_sy q r hq1 hr1
   have hadd:=o_x8 (innQ q (outQ next A i) (C.take j)) (t1,t2,t3) (q*r) (hget2.rs hDG (by omega) hsz) ((hqr.le (C:=CP) (by omega)).rs hDG (by omega) hsz)
   have ewj:IntKind.i64.wrap ((j:Int)+1)=((j+1:Nat):Int):=by rw [w64 (by omega) (by omega)];omega
   have hc6:j*6+6≤C.length*6:=by omega
   have hc7:j*6<C.length*6:=by omega
   rw [←hinn] at hadd
   rw [o_x5 q,o_x5 r,o_x5 (q*r),hN,hM] at hmul
   rw [o_x5 (q*r)] at hadd
   obtain ⟨P1,P2,P3,hP⟩:∃P1 P2 P3,rcD (q*r)=[P1,P2,P3]:=⟨_,_,_,rfl⟩
   rw [hP] at hmul hadd
   simp only [spO,stD] at hadd
   refine A10 (fs hj2 (fs hj3 (fs hgc (fs hCl (fs hc6 hc7))))) ?_;try with_reducible exact tt
   refine CallS.pu (hmul) (R0 ?_);try with_reducible exact tt
   refine CallS.g [1] (hadd) (R0 ?_);try with_reducible exact tt
   refine A10 ewj ?_;try with_reducible exact tt
   refine ⟨j+1,1,1,⟨by omega,by omega⟩,by omega,by omega,?_,?_⟩
   ·simp [swT,swH,sw,Ob.sw,V.ren,V.rens]
   ·simp [swT,swH,sw,Ob.sw,V.ren,V.rens]
  ·have h2:j=C.length:=by omega
   subst h2
   rw [List.take_length,←hon1]
   refine A00 ?_;try with_reducible exact tt
   refine A10 ewi ?_;try with_reducible exact tt
   refine ⟨i+1,1,1,⟨by omega,by omega⟩,by omega,by omega,?_,?_⟩
   ·simp [swT,swH,sw,Ob.sw,V.ren,V.rens]
   ·simp [swT,swH,sw,Ob.sw,V.ren,V.rens]
 ·have h2:i=A.length:=by omega
  subst h2
  refine A00 ?_;try with_reducible exact tt
end
section
open Go.RowKit
theorem o_139 (s:St):∀i,(binI s i).length≤i
 | 0=>Nat.le_refl _
 | i+1=>Nat.le_trans (o_zu _ _ _) (Nat.succ_le_succ (o_139 s i))
theorem o_13a {α:Type} (c:Nat):∀l:List α,(l.map fun _=>c).sum=l.length*c
 | []=>by simp
 | _::l=>by rw [List.map_cons,List.sum_cons,o_13a c l,List.length_cons,Nat.add_mul];omega
theorem o_13b {A B:Nat} {l:Sp} (hu:Uq l) (h:kyQ (okT A B) l):l.length≤(A+1)*((B+1)*2):=by
 have h1:(l.map (·.1)).length≤((List.range (A+1)).flatMap fun a=>(List.range (B+1)).flatMap fun b=>([(a,b,false),(a,b,true)]:List St)).length:=by
  refine List.Nodup.length_le_of_subset hu fun t ht=>?_
  obtain ⟨p,hp,rfl⟩:=List.mem_map.1 ht
  obtain ⟨h1,h2,-⟩:=h p hp
  refine List.mem_flatMap.2 ⟨p.1.1,List.mem_range.2 (by omega),List.mem_flatMap.2 ⟨p.1.2.1,List.mem_range.2 (by omega),?_⟩⟩
  obtain ⟨⟨a,b,f⟩,q⟩:=p
  cases f<;>simp
 rw [List.length_map] at h1
 simpa [List.length_flatMap,o_13a] using h1
theorem SpOK.nextJ {e:Nat} {P:St→Prop} {next:St→Sp} {J:Nat} {s:St} (h:SpOK e P (next s)) (hl:(next s).length≤J) (hJ:J≤1000000):NextJ next (2^e) J s:=⟨h.uq,h.nz,hl,hJ,h.gr⟩
structure ThS (A B:Nat):Prop where
 a1:1≤A
 n:(A+1)*(B+1)≤1000
 b:B≤900
 a:A≤450
 gd:GoodT A B
theorem o_13c {L J e f:Nat} (hL:L≤100000) (hJ:J≤10000) (he:e+f≤90000):size (L*J*(2^e*2^f))≤100000:=by
 have h1:L*J≤100000*10000:=Nat.mul_le_mul hL hJ
 have h2:=o_sk (L*J) (2^e*2^f)
 rw [←Nat.pow_add] at *
 have h3:=o_133 (e+f)
 have h4:size (L*J)≤1:=o_md (by omega)
 omega
set_option maxHeartbeats 4000000 in
theorem o_13d {A B X:Nat} (h:ThS A B) (hX:X≤900) (hXB:X*(B+1)≤80000):∀(f:Nat) (s:St),s.2.1+f=B→s.1≤X→(s.2.2=true→s.2.1=B)→Eqn Tryz.prog o_da [.d (parD 4 A B),.d (.agg (stD s))] [] (.mp 0) [spO (downA A B s)]:=by
 intro f
 induction f with
 | zero =>
  intro s hT hsX hf
  refine Eqn.gen [2] o_dc (by simp) (by simp) (by rfl) (by decide) (by simp) (by simp [spO]) ?_
  obtain ⟨K,T,F⟩:=s
  simp only at hT hsX hf
  by_cases hk:K≤A
  ·have hk':(K:Int)≤A:=by omega
   have hsu:=o_xc (K,T,F)
   rw [o_12m (s:=(K,T,F)) hk]
   refine cc (c':=?z222) ?_ ?_
   case refine_1=>cbv<;>exact rfl
   try simp only [spO,stD,parD] at hsu ⊢
   generalize spD rcD _=L at *
   refine A10 (fs hk hk') ?_;try with_reducible exact tt
   refine CallS.nX (hsu) (R0 ?_);try with_reducible exact tt
  ·have hk':¬(K:Int)≤A:=by omega
   have hT2:T=B:=by omega
   have hsu:=o_xc (A,T,true)
   rw [o_12n (s:=(K,T,F)) hk (by simp only;omega)]
   subst hT2
   refine cc (c':=?z223) ?_ ?_
   case refine_1=>cbv<;>exact rfl
   try simp only [spO,stD,parD] at hsu ⊢
   generalize spD rcD _=L at *
   refine A10 (fs hk hk') ?_;try with_reducible exact tt
   refine CallS.nX (hsu) (R0 ?_);try with_reducible exact tt
 | succ f ih =>
  intro s hT hsX hf
  by_cases hk:s.1≤A
  ·refine Eqn.gen [2] o_dc (by simp) (by simp) (by rfl) (by decide) (by simp) (by simp [spO]) ?_
   obtain ⟨K,T,F⟩:=s
   simp only at hT hsX hf hk
   have hk':(K:Int)≤A:=by omega
   have hsu:=o_xc (K,T,F)
   rw [o_12m (s:=(K,T,F)) hk]
   refine cc (c':=?z224) ?_ ?_
   case refine_1=>cbv<;>exact rfl
   try simp only [spO,stD,parD] at hsu ⊢
   generalize spD rcD _=L at *
   refine A10 (fs hk hk') ?_;try with_reducible exact tt
   refine CallS.nX (hsu) (R0 ?_);try with_reducible exact tt
  ·have hTB:s.2.1<B:=by omega
   have hb:=SpOK.bin s
   have hbX:=hb.mono hsX fun _ h=>h
   have hJ:(A+1)*((B+1)*2)≤2000:=by rw [←Nat.mul_assoc];have:=h.n;omega
   have hXf:X+X*f≤90000:=by
    have:X*(f+1)≤X*(B+1):=Nat.mul_le_mul_left _ (by omega)
    rw [Nat.mul_add] at this
    omega
   have hcl:∀t:St,(t.1≤s.1∧t.2=(s.2.1+1,s.2.2))→NextJ (downA A B) (2^(X*f)) ((A+1)*((B+1)*2)) t∧Eqn Tryz.prog o_ft [.d (.agg (stD t)),.p 0 0] [PO 4 A B] (.mp 1) [PO 4 A B,spO (downA A B t)]:=by
    intro t ht
    have hf0:s.2.2=false:=by
     cases hf2:s.2.2 with
     | false=>rfl
     | true=>have:=hf hf2;omega
    have e1:t.2.1+f=B:=by rw [ht.2];simp only;omega
    have e2:t.2.2=true→t.2.1=B:=by rw [ht.2];simp only [hf0];intro h;cases h
    have hd:=SpOK.down (A:=A) (B:=B) (X:=X) f t e1 (by omega) e2
    refine ⟨hd.nextJ (o_13b hd.uq hd.ky) (by omega),?_⟩
    have hdn:=ih t e1 (by omega) e2
    refine Eqn.gen [0,2] o_fv (by simp) (by simp) (by rfl) (by decide) (by simp) (by simp [spO,PO]) ?_
    refine cc (c':=?z225) ?_ ?_
    case refine_1=>cbv<;>exact rfl
    try simp only [spO,stD,parD,PO] at hdn ⊢
    generalize spD rcD _=L at *
    refine A00 ?_;try with_reducible exact tt
    refine CallS.nX (hdn) (R0 ?_);try with_reducible exact tt
   have hti:=o_137 (f:=o_ft) (next:=downA A B) (T1:=29) (x0:=.int .i64 4) (x1:=.int .i64 A) (x2:=.int .i64 B) (by decide) (fun t:St=>t.1≤s.1∧t.2=(s.2.1+1,s.2.2)) (binQ s) (2^(X*f)) (2^X) 1 1000 ((A+1)*((B+1)*2)) (1000*((A+1)*((B+1)*2))) hb.uq (fun p hp=>hb.ky p (List.mem_filter.1 hp).1) hb.nz (Nat.le_trans (List.length_filter_le _ _) (Nat.le_trans (o_139 s _) (by omega))) (Nat.le_trans (o_139 s _) (by omega)) (Nat.two_pow_pos _) (Nat.le_refl _) hbX.gr (Nat.two_pow_pos _) hcl (o_13c (by omega) (by omega) hXf) (by omega) (Nat.mul_pos (by omega) (by omega))
   have hbi:=o_136 s (by omega) (by have:=h.b;omega)
   rw [o_12o hk hTB]
   refine Eqn.gen [3] o_dc (by simp) (by simp) (by rfl) (by decide) (by simp) (by simp [spO]) ?_
   obtain ⟨K,T,F⟩:=s
   simp only at hT hsX hf hk hTB
   have hk':¬(K:Int)≤A:=by omega
   have hTB':¬(T:Int)=B:=by omega
   have hTB2:¬T=B:=by omega
   have hTB3:((T:Int)==(B:Int))=false:=by simp;omega
   refine cc (c':=?z226) ?_ ?_
   case refine_1=>cbv<;>exact rfl
   try simp only [spO,stD,parD] at hbi hti ⊢
   generalize spD rcD (timesQ _ _)=L2 at *
   generalize spD rcD (binQ _)=L at *
   refine A10 (fs hk (fs hk' (fs hTB' (fs hTB2 hTB3)))) ?_;try with_reducible exact tt
   refine CallS.nX (hbi) (R0 ?_);try with_reducible exact tt
   refine CallS.g [2,0] (hti) (R0 ?_);try with_reducible exact tt
end
section
open Go.RowKit
set_option maxHeartbeats 4000000 in
theorem o_13e {A B:Nat} (h:ThS A B) (s:St) (hs:okT A B s):Eqn Tryz.prog o_ag [.d (parD 4 A B),.d (.agg (stD s))] [] (.mp 0) [spO (stepT A B s)]:=by
 obtain ⟨h1,h2,h3⟩:=hs
 have hb9:=h.b
 have ha9:=h.a
 have hX:(A+1)*(B+1)≤80000:=by have:=h.n;omega
 have hhf:=o_132 s.2.1 (by omega)
 have hrs:RS (mkRat 1 (2^s.2.1)) 1000:=RS.mk' (Nat.two_pow_pos _) (Nat.le_trans (o_md (by decide)) (by omega)) (by have:=o_133 s.2.1;omega)
 have hei:=o_xa (mkRat 1 (2^s.2.1)) (s.1+1,s.2) s hrs (fun e=>by have:=congrArg (fun x:St=>x.1) e;simp at this)
 have he:SpOK B (fun t=>t.1≤A+1∧t.2=s.2) (eitQ (mkRat 1 (2^s.2.1)) (s.1+1,s.2) s):=SpOK.eit ((o_12j _).up h2) ((o_12k _).up h2) ⟨by simp only;omega,rfl⟩ ⟨by omega,rfl⟩
 have hel:(eitQ (mkRat 1 (2^s.2.1)) (s.1+1,s.2) s).length≤2:=Nat.le_trans (o_zu _ _ _) (Nat.succ_le_succ (Nat.le_trans (o_zu _ _ _) (by simp)))
 have hJ:(A+1)*((B+1)*2)≤2000:=by rw [←Nat.mul_assoc];have:=h.n;omega
 have hcl:∀t:St,(t.1≤A+1∧t.2=s.2)→NextJ (downA A B) (2^((A+1)*(B-s.2.1))) ((A+1)*((B+1)*2)) t∧Eqn Tryz.prog o_d7 [.d (.agg (stD t)),.p 0 0] [PO 4 A B] (.mp 1) [PO 4 A B,spO (downA A B t)]:=by
  intro t ht
  have e1:t.2.1+(B-s.2.1)=B:=by rw [ht.2];omega
  have e2:t.2.2=true→t.2.1=B:=by rw [ht.2];exact h3
  have hd:=SpOK.down (A:=A) (B:=B) (X:=A+1) (B-s.2.1) t e1 ht.1 e2
  refine ⟨hd.nextJ (o_13b hd.uq hd.ky) (by omega),?_⟩
  have hdn:=o_13d h (X:=A+1) (by omega) hX (B-s.2.1) t e1 ht.1 e2
  refine Eqn.gen [0,2] o_d9 (by simp) (by simp) (by rfl) (by decide) (by simp) (by simp [spO,PO]) ?_
  refine cc (c':=?z227) ?_ ?_
  case refine_1=>cbv<;>exact rfl
  try simp only [spO,stD,parD,PO] at hdn ⊢
  generalize spD rcD _=L at *
  refine A00 ?_;try with_reducible exact tt
  refine CallS.nX (hdn) (R0 ?_);try with_reducible exact tt
 have hef:B+(A+1)*(B-s.2.1)≤90000:=by
  have:(A+1)*(B-s.2.1)≤(A+1)*(B+1):=Nat.mul_le_mul_left _ (by omega)
  have:=h.n
  omega
 have hti:=o_137 (f:=o_d7) (next:=downA A B) (T1:=29) (x0:=.int .i64 4) (x1:=.int .i64 A) (x2:=.int .i64 B) (by decide) (fun t:St=>t.1≤A+1∧t.2=s.2) (eitQ (mkRat 1 (2^s.2.1)) (s.1+1,s.2) s) (2^((A+1)*(B-s.2.1))) (2^B) 1 2 ((A+1)*((B+1)*2)) (2*((A+1)*((B+1)*2))) he.uq (fun p hp=>he.ky p (List.mem_filter.1 hp).1) he.nz (Nat.le_trans (List.length_filter_le _ _) hel) (Nat.le_trans hel (by omega)) (Nat.two_pow_pos _) (Nat.le_refl _) he.gr (Nat.two_pow_pos _) hcl (o_13c (by omega) (by omega) hef) (by omega) (Nat.mul_pos (by omega) (by omega))
 rw [show timesQ (downA A B) (eitQ (mkRat 1 (2^s.2.1)) (s.1+1,s.2) s)=stepT A B s from rfl] at hti
 refine Eqn.gen [4] o_ai (by simp) (by simp) (by rfl) (by decide) (by simp) (by simp [spO]) ?_
 obtain ⟨K,T,F⟩:=s
 simp only at h1 h2 h3 hhf hei hti
 have ew:IntKind.i64.wrap ((K:Int)+1)=((K+1:Nat):Int):=by rw [w64 (by omega) (by omega)];omega
 obtain ⟨H1,H2,H3,hH⟩:∃H1 H2 H3,rcD (mkRat 1 (2^T))=[H1,H2,H3]:=⟨_,_,_,rfl⟩
 refine cc (c':=?z228) ?_ ?_
 case refine_1=>cbv<;>exact rfl
 try simp only [spO,stD,parD,o_x5] at hei hti hhf ⊢
 generalize spD rcD (stepT _ _ _)=L2 at *
 generalize spD rcD (eitQ _ _ _)=L at *
 rw [hH] at hhf hei
 obtain ⟨K1,hK1⟩:∃K1,K1=K+1:=⟨_,rfl⟩
 rw [←hK1] at hei ew
 refine A10 ew ?_;try with_reducible exact tt
 refine CallS.pu (hhf) (R0 ?_);try with_reducible exact tt
 refine CallS.nX (hei) (R0 ?_);try with_reducible exact tt
 refine CallS.g [3,0] (hti) (R0 ?_);try with_reducible exact tt
def dstT (A B:Nat) (s:St) (n:Nat):Sp:=ofQ (stepT A B) s n
theorem o_13f {A B:Nat} (h:ThS A B):Eqn Tryz.prog o_a4 [.d (parD 4 A B)] [] (.d (.int .i64 ((A+1)*(B+1):Nat))) []:=by
 refine Eqn.pure o_a6 Plain.ok ?_
 have h1:=h.a
 have h2:=h.b
 have h3:=h.n
 have e1:IntKind.i64.wrap ((A:Int)+1)=((A+1:Nat):Int):=by rw [w64 (by omega) (by omega)];omega
 have e2:IntKind.i64.wrap ((B:Int)+1)=((B+1:Nat):Int):=by rw [w64 (by omega) (by omega)];omega
 have e3:IntKind.i64.wrap (((A+1:Nat):Int)*((B+1:Nat):Int))=(((A+1)*(B+1):Nat):Int):=by rw [←Int.natCast_mul];exact w64 (by omega) (by omega)
 refine cc (c':=?z229) ?_ ?_
 case refine_1=>cbv<;>exact rfl
 try simp only [parD]
 obtain ⟨A1,hA1⟩:∃A1,A1=A+1:=⟨_,rfl⟩
 obtain ⟨B1,hB1⟩:∃B1,B1=B+1:=⟨_,rfl⟩
 rw [←hA1] at e1 e3 ⊢
 rw [←hB1] at e2 e3 ⊢
 obtain ⟨M,hM⟩:∃M,M=A1*B1:=⟨_,rfl⟩
 rw [←hM] at e3 ⊢
 refine A10 (fs e1 (fs e2 e3)) ?_;try with_reducible exact tt
theorem o_13g {A B:Nat} {s:St} (hs:okT A B s):WellR 4 A B s.1 s.2.1 s.2.2:=.inl ⟨rfl,hs⟩
theorem ThS.good {A B:Nat} (h:ThS A B):GoodR 4 A B:=.inl ⟨rfl,h.gd⟩
theorem o_13h {A B:Nat} (h:ThS A B) {s:St} (hs:okT A B s):(stepT A B s).length≤2000:=by
 have h1:=SpOK.stepT hs
 have h2:=o_13b h1.uq h1.ky
 rw [←Nat.mul_assoc] at h2
 have:=h.n
 omega
set_option maxHeartbeats 4000000 in
theorem o_13i {A B:Nat} (h:ThS A B) (s:St) (hs:okT A B s) (n:Nat) (hn:n≤64) (hcost:(n+1)*((A+1)*(B+1))≤512):Eqn Tryz.prog o_8d [.d (parD 4 A B),.d (.agg (stD s)),.d (.int .i64 n)] [] (.tup [.d (.sl (atQ (dstT A B s n)).length (spD rcD (atQ (dstT A B s n)))),.d (.int .i64 0)]) []:=by
 refine Eqn.pure o_8f Plain.ok ?_
 have hwr:=o_103 h.good s (o_13g hs)
 have hst:=o_13f h
 have hsu:=o_xc s
 have hof:∀i,SpOK (i*(B+(A+1)*B)) (okT A B) (ofQ (stepT A B) s i):=fun i=>SpOK.of (fun t (ht:okT A B t)=>SpOK.stepT ht) hs i
 have hE:(n+1)*(B+(A+1)*B)≤2000:=by
  have h1:B+(A+1)*B≤2*((A+1)*(B+1)):=by
   have h2:(A+1)*(B+1)=(A+1)*B+(A+1):=by rw [Nat.mul_add,Nat.mul_one]
   have h3:B≤(A+1)*B:=Nat.le_mul_of_pos_left B (by omega)
   omega
  have h2:=Nat.mul_le_mul_left (n+1) h1
  have h3:(n+1)*(2*((A+1)*(B+1)))=2*((n+1)*((A+1)*(B+1))):=by rw [Nat.mul_left_comm]
  omega
 have hlen:∀i,(dstT A B s i).length≤2000:=fun i=>by
  have h2:=o_13b (hof i).uq (hof i).ky
  have h3:=Nat.mul_assoc (A+1) (B+1) 2
  have:=h.n
  show (ofQ (stepT A B) s i).length≤2000
  omega
 have hcl:∀t:St,okT A B t→NextJ (stepT A B) (2^(B+(A+1)*B)) 2000 t∧Eqn Tryz.prog o_ad [.d (.agg (stD t)),.p 0 0] [PO 4 A B] (.mp 1) [PO 4 A B,spO (stepT A B t)]:=by
  intro t ht
  refine ⟨(SpOK.stepT ht).nextJ (o_13h h ht) (by omega),?_⟩
  have hst:=o_13e h t ht
  refine Eqn.gen [0,2] o_af (by simp) (by simp) (by rfl) (by decide) (by simp) (by simp [spO,PO]) ?_
  refine cc (c':=?z230) ?_ ?_
  case refine_1=>cbv<;>exact rfl
  try simp only [spO,stD,parD,PO] at hst ⊢
  generalize spD rcD _=L at *
  refine A00 ?_;try with_reducible exact tt
  refine CallS.nX (hst) (R0 ?_);try with_reducible exact tt
 have hti:∀i,i<n→Eqn Tryz.prog o_aa [.mp 0,.fn (.func o_ad) [.p 1 0]] [spO (dstT A B s i),PO 4 A B] (.mp 2) [spO (dstT A B s i),PO 4 A B,spO (dstT A B s (i+1))]:=fun i hi=>by
  have hef:i*(B+(A+1)*B)+(B+(A+1)*B)≤90000:=by
   have h1:(i+1)*(B+(A+1)*B)≤(n+1)*(B+(A+1)*B):=Nat.mul_le_mul_right _ (by omega)
   rw [Nat.add_mul,Nat.one_mul] at h1
   omega
  exact o_137 (f:=o_ad) (next:=stepT A B) (T1:=29) (x0:=.int .i64 4) (x1:=.int .i64 A) (x2:=.int .i64 B) (by decide) (okT A B) (dstT A B s i) (2^(B+(A+1)*B)) (2^(i*(B+(A+1)*B))) 1 2000 2000 (2000*2000) (hof i).uq (fun p hp=>(hof i).ky p (List.mem_filter.1 hp).1) (hof i).nz (Nat.le_trans (List.length_filter_le _ _) (hlen i)) (Nat.le_trans (hlen i) (by omega)) (Nat.two_pow_pos _) (Nat.le_refl _) (hof i).gr (Nat.two_pow_pos _) hcl (o_13c (by omega) (by omega) hef) (by omega) (by omega)
 have hat:Eqn Tryz.prog o_aj [.mp 0] [spO (dstT A B s n)] (.d (.sl (atQ (dstT A B s n)).length (spD rcD (atQ (dstT A B s n))))) [spO (dstT A B s n)] :=
  o_ze _ (hof n).uq (hof n).nz (Nat.le_trans (hlen n) (by omega)) ((hof n).rs (by
   have h1:n*(B+(A+1)*B)≤(n+1)*(B+(A+1)*B):=Nat.mul_le_mul_right _ (by omega)
   omega))
 have hd0:dstT A B s 0=[(s,1)]:=rfl
 rw [←hd0] at hsu
 have e1:IntKind.i64.wrap ((n:Int)+1)=((n+1:Nat):Int):=by rw [w64 (by omega) (by omega)];omega
 obtain ⟨W,hW⟩:∃W,W=(A+1)*(B+1):=⟨_,rfl⟩
 rw [←hW] at hst hcost
 have e2:IntKind.i64.wrap (((n+1:Nat):Int)*(W:Int))=(((n+1)*W:Nat):Int):=by rw [←Int.natCast_mul];exact w64 (by omega) (by omega)
 obtain ⟨M,hM⟩:∃M,M=(n+1)*W:=⟨_,rfl⟩
 rw [←hM] at e2 hcost
 obtain ⟨n1,hn1⟩:∃n1,n1=n+1:=⟨_,rfl⟩
 rw [←hn1] at e1 e2
 have g1:¬(n:Int)<0:=by omega
 have g2:¬(64:Int)<n:=by omega
 have g3:¬(512:Int)<M:=by omega
 have g4:¬512<M:=by omega
 have g5:¬64<n:=by omega
 generalize hA:atQ (dstT A B s n)=AA at *
 refine cc (c':=?z231) ?_ ?_
 case refine_1=>cbv<;>exact rfl
 try simp only [stD,parD,spO,PO] at hwr hst hsu hti hat ⊢
 refine A00 ?_;try with_reducible exact tt
 refine CallS.pf 2 3 ⟨35,[.d (.int .i64 s.1),.d (.int .i64 s.2.1),.d (.bool s.2.2)]⟩ [.int .i64 s.1,.int .i64 s.2.1,.bool s.2.2] (hwr) (by first | rfl | (simp [g1,g2,g5];done)) (R1 (fs g1 (fs g2 g5)) ?_);try with_reducible exact tt
 refine A10 (fs g1 (fs g2 (fs g5 e1))) ?_;try with_reducible exact tt
 refine CallS.pu (hst) (R1 (fs e2 (fs g3 g4)) ?_);try with_reducible exact tt
 refine A10 (fs e2 (fs g3 g4)) ?_;try with_reducible exact tt
 refine CallS.nX (hsu) (R0 ?_);try with_reducible exact tt
 refine AW.loopG (α:=Nat) (fun i=>setS (List.replicate 43 .junk) [(3,.p 0 0),(9,.mp 3),(34,.d (.int .i64 n)),(35,.d (.int .i64 (i:Nat)))]) (fun i=>[some ⟨29,[.d (.int .i64 (4:Nat)),.d (.int .i64 A),.d (.int .i64 B)]⟩,none,none,some ⟨1000391,(spD rcD (dstT A B s i)).map .d⟩]) (fun i=>i≤n) (fun i=>n-i) 0 ?_ (Nat.zero_le _) ?_ ?_ ?_
 ·intro i hi;simp
 ·simp
 ·simp
 rintro i hi
 simp
 by_cases hi2:i<n
 ·have hi3:(i:Int)<n:=by omega
  have ew:IntKind.i64.wrap ((i:Int)+1)=((i+1:Nat):Int):=by rw [w64 (by omega) (by omega)];omega
  have ht:=hti i (by omega)
  refine A10 (fs hi2 hi3) ?_;try with_reducible exact tt
  refine CallS.g [3,0] (ht) (R1 ew ?_);try with_reducible exact tt
  refine A10 ew ?_;try with_reducible exact tt
  refine ⟨i+1,3,4,by omega,by omega,by omega,?_,?_⟩
  ·simp [swT,swH,sw,Ob.sw,V.ren,V.rens]
  ·simp [swT,swH,sw,Ob.sw,V.ren,V.rens]
 ·have h2:i=n:=by omega
  subst h2
  refine A00 ?_;try with_reducible exact tt
  refine CallS.g [3] (hat) (R0 ?_);try with_reducible exact tt
  done
end
section
open Go.RowKit
end
section
open Go.RowKit
end
section
open Go.RowKit
end
section
open Go.RowKit
end
section
open Go.RowKit
end
section
open Go.RowKit
end
section
open Go.RowKit
theorem o_13j (n:Nat):size (2^n)≤n/64+1:=by
 refine o_7b (o_l5 _) ?_
 rw [o_l3,show 18446744073709551616=2^64 from rfl,←Nat.pow_mul]
 exact Nat.pow_lt_pow_right (by decide) (by omega)
theorem o_13k {A B:Nat} (h1:1≤A) (h2:A≤8) (h3:B≤3):ThS A B where
 a1:=h1
 n:=Nat.le_trans (Nat.mul_le_mul (show A+1≤9 by omega) (show B+1≤4 by omega)) (by decide)
 b:=by omega
 a:=by omega
 gd:=⟨h1,by omega,by omega⟩
theorem o_13l {A B:Nat} {s:St}:vlQ 4 A B s=((s.1*2^s.2.1:Nat):Rat):=by
 unfold vlQ valR
 rw [if_pos rfl]
theorem o_13m {A B:Nat} (h1:1≤A) (h2:A≤8) (h3:B≤3) {L:Sp} {e:Nat} (hL:SpOK e (okT A B) L) (he:e≤10000):LsOK 4 A B (atQ L) (2^e) 1 1 1000:=by
 have hl:=o_13b hL.uq hL.ky
 have h4:(A+1)*((B+1)*2)≤9*(4*2):=Nat.mul_le_mul (by omega) (Nat.mul_le_mul_right _ (by omega))
 refine ⟨Nat.le_trans (o_zw _) (by omega),hL.at.one,Nat.two_pow_pos _,by decide,by decide,by decide,by have:=o_13j e;omega,Nat.le_trans (o_md (by decide)) (by decide),Nat.le_trans (o_md (by decide)) (by decide),Nat.le_trans (o_md (by decide)) (by decide),fun p hp=>o_13g (hL.at.ky p hp),hL.at.gr,fun p hp=>?_⟩
 obtain ⟨a1,a2,-⟩:=hL.at.ky p hp
 rw [o_13l]
 refine o_131 ?_
 have:p.1.1*2^p.1.2.1≤8*2^3:=Nat.mul_le_mul (by omega) (Nat.pow_le_pow_right (by decide) (by omega))
 omega
end
section
open Go.RowKit
def smQ (K A B:Nat) (s:St) (n:Nat):Sp:=if K=4 then dstT A B s n else dstQ K A B s n
structure SmOK (K A B:Nat) (Q:Sp):Prop where
 uq:Uq Q
 one:exQ (fun _=>1) Q=1
 nn:∀p∈Q,0≤p.2
 ls:∃D C E V,LsOK K A B (atQ Q) D C E V
theorem LsOK.rs {k a w:Nat} {L:Sp} {D C E V:Nat} (h:LsOK k a w L D C E V):∀p∈L,RS p.2 90000:=fun p hp=>(h.gr p hp).rs h.dp h.cp (by
 have:=o_sk C D
 have:=h.sd;have:=h.sc;omega)
theorem LsOK.rsum {k a w:Nat} {L:Sp} {D C E V:Nat} (h:LsOK k a w L D C E V):∀i,i≤L.length→RS (psum L i) 100000:=fun i hi=>by
 refine ((o_11n h.gr i hi).le (C:=1000*C) (Nat.mul_le_mul_right _ (Nat.le_trans hi h.len))).rs h.dp (Nat.mul_pos (by decide) h.cp) ?_
 have h1:=o_sk (1000*C) D
 have h2:=o_sk 1000 C
 have h3:size 1000≤1:=o_md (by decide)
 have:=h.sd;have:=h.sc;omega
theorem sm_ok {K A B:Nat} (hsr:SmallR K A B) {Y T:Nat} {F:Bool} (hw:WellR K A B Y T F) (n:Nat) (hn:n≤7):SmOK K A B (smQ K A B (Y,T,F) n)∧Eqn Tryz.prog o_8d [.d (parD K A B),.d (.agg [.int .i64 Y,.int .i64 T,.bool F]),.d (.int .i64 n)] [] (.tup [.d (.sl (atQ (smQ K A B (Y,T,F) n)).length (spD rcD (atQ (smQ K A B (Y,T,F) n)))),.d (.int .i64 0)]) []:=by
 rcases hsr with ⟨rfl,h1,h2,h3⟩ | ⟨hk,hG⟩
 ·have hs:okT A B (Y,T,F):=by
   rcases hw with ⟨-,h⟩ | ⟨h,-⟩
   ·exact h
   ·exact absurd rfl h
  have hst:∀i,SpOK (i*(B+(A+1)*B)) (okT A B) (dstT A B (Y,T,F) i):=fun i=>SpOK.of (fun t (ht:okT A B t)=>SpOK.stepT ht) hs i
  have he:n*(B+(A+1)*B)≤7*(3+9*3):=Nat.mul_le_mul hn (Nat.add_le_add h3 (Nat.mul_le_mul (by omega) h3))
  have hc:(n+1)*((A+1)*(B+1))≤8*(9*4):=Nat.mul_le_mul (by omega) (Nat.mul_le_mul (by omega) (by omega))
  unfold smQ
  rw [if_pos rfl]
  exact ⟨⟨(hst n).uq,(hst n).one,(hst n).nn,_,_,_,_,o_13m h1 h2 h3 (hst n) (by omega)⟩,o_13i (o_13k h1 h2 h3) (Y,T,F) hs n (by omega) (by omega)⟩
 ·obtain ⟨hT0,hYt,hFt⟩:T=0∧Y≤2^B-1∧(F=true→Y=2^B-1):=by
   rcases hw with ⟨h,-⟩ | ⟨-,h⟩
   ·exact absurd h hk
   ·exact h
  have hok:okQ (topC B) (Y,T,F):=⟨hYt,hT0,hFt⟩
  obtain ⟨c0,c1⟩:=o_10c hG
  unfold smQ
  rw [if_neg hk]
  exact ⟨⟨o_vz _ _ _,o_wa _ _,fun p hp=>(o_w9 c0 c1 hok n p hp).2,o_130 hG hok n (by omega)⟩,o_11f hG hG.2.2 (Y,T,F) hw hok n (by omega)⟩
def LawOK (X:Wm) (op:Nat) (Q:Sp):Prop:=∀s,(getN s X:Rat)≤2048*getQ Q s∧2048*getQ Q s≤((getN s X+op:Nat):Rat)
theorem o_13n (n:Nat):mkRat n 2048=(n:Rat)/2048:=by
 rw [Rat.mkRat_eq_div];rfl
end
section
open Go.RowKit
theorem o_13o (s:St) (v:Nat):∀(l:Wm) (p:St×Nat),p∈setN l s v→p.1=s∨∃q∈l,q.1=p.1
 | [],p,h=>by
  simp only [setN,List.mem_singleton] at h
  exact .inl (by rw [h])
 | q::l,p,h=>by
  unfold setN at h
  split at h
  ·rename_i e
   rcases List.mem_cons.1 h with h | h
   ·left;rw [h]
   ·right;exact ⟨p,List.mem_cons_of_mem _ h,rfl⟩
  ·rcases List.mem_cons.1 h with h | h
   ·right;exact ⟨q,List.mem_cons_self,by rw [h]⟩
   ·rcases o_13o s v l p h with h | ⟨r,h1,h2⟩
    ·exact .inl h
    ·exact .inr ⟨r,List.mem_cons_of_mem _ h1,h2⟩
theorem o_13p (s:St) (v:Nat):∀l:Wm,(setN l s v).length≤l.length+1
 | []=>by simp [setN]
 | q::l=>by
  unfold setN
  split
  ·simp
  ·have:=o_13p s v l
   simp;omega
def posW (l:Wm):Prop:=∀p∈l,0<getN p.1 l
theorem o_13q {l:Wm} (h:posW l) (s:St) {w:Nat} (hw:0<w):posW (addN l s w):=fun p hp=>by
 simp only [addN,o_y5]
 split
 ·omega
 ·rename_i e
  rcases o_13o s _ l p hp with h1 | ⟨q,h1,h2⟩
  ·exact absurd h1 e
  ·rw [←h2];exact h q h1
theorem o_13r {ask:List Bool→St×Int}:∀(d:Nat) (pre:List Bool) (X:Wm×Nat),posW X.1→posW (walkN ask d pre X).1∧(walkN ask d pre X).1.length≤X.1.length+2^d
 | 0,pre,(L,op),h=>by
  unfold walkN
  split
  ·exact ⟨o_13q h _ (by decide),o_13p _ _ _⟩
  ·exact ⟨h,by simp⟩
 | d+1,pre,(L,op),h=>by
  have hp:=Nat.two_pow_pos d
  have e2:2^(d+1)=2^d+2^d:=by rw [Nat.pow_succ];omega
  unfold walkN
  split
  ·obtain ⟨h1,h2⟩:=o_13r (ask:=ask) d (pre++[false]) (L,op) h
   obtain ⟨h3,h4⟩:=o_13r (ask:=ask) d (pre++[true]) _ h1
   refine ⟨h3,?_⟩
   simp only at h2 ⊢
   omega
  ·split
   ·refine ⟨o_13q h _ (by omega),?_⟩
    have:=o_13p (ask pre).1 (getN (ask pre).1 L+2^(d+1)) L
    simp only [addN]
    omega
   ·exact ⟨h,by simp only;omega⟩
theorem o_13s (s t:St) (l:Wm) (w:Nat):(getN s (addN l t w):Rat)=getN s l+(w:Rat)*(if s=t then 1 else 0):=by
 simp only [addN,o_y5]
 split
 ·rename_i e;subst e;rw [Rat.natCast_add,Rat.mul_one]
 ·rw [Rat.mul_zero,Rat.add_zero]
theorem o_13t {ask:List Bool→St×Int} {D:List Bool→Rat} {s:St} (h01:∀pre,0≤D pre∧D pre≤1) (h8:∀pre,(ask pre).2=8→2*D pre=D (pre++[false])+D (pre++[true])) (h0:∀pre,(ask pre).2=0→D pre=if s=(ask pre).1 then 1 else 0):∀(d:Nat) (pre:List Bool) (X:Wm×Nat),
  (getN s (walkN ask d pre X).1:Rat)≤getN s X.1+((2^d:Nat):Rat)*D pre∧(getN s X.1:Rat)+X.2+((2^d:Nat):Rat)*D pre≤getN s (walkN ask d pre X).1+(walkN ask d pre X).2
 | 0,pre,(L,op)=>by
  obtain ⟨d0,d1⟩:=h01 pre
  have e:((2^0:Nat):Rat)=1:=rfl
  rw [e,Rat.one_mul]
  unfold walkN
  split
  ·rename_i h
   simp only
   rw [o_13s,←h0 pre h]
   have e1:((1:Nat):Rat)=1:=rfl
   rw [e1]
   constructor<;>grind
  ·simp only
   rw [Rat.natCast_add]
   have e1:((1:Nat):Rat)=1:=rfl
   rw [e1]
   constructor<;>grind
 | d+1,pre,(L,op)=>by
  obtain ⟨d0,d1⟩:=h01 pre
  have e2:((2^(d+1):Nat):Rat)=((2^d:Nat):Rat)*2:=by rw [Nat.pow_succ,Rat.natCast_mul];rfl
  have hp:(0:Rat)≤((2^(d+1):Nat):Rat):=Rat.natCast_nonneg
  have m0:=Rat.mul_nonneg hp d0
  have m1:((2^(d+1):Nat):Rat)*D pre≤((2^(d+1):Nat):Rat):=by
   have:=Rat.mul_le_mul_of_nonneg_left d1 hp
   rwa [Rat.mul_one] at this
  unfold walkN
  split
  ·rename_i h
   obtain ⟨a1,a2⟩:=o_13t h01 h8 h0 d (pre++[false]) (L,op)
   obtain ⟨b1,b2⟩:=o_13t h01 h8 h0 d (pre++[true]) (walkN ask d (pre++[false]) (L,op))
   have e8:=h8 pre h
   rw [e2]
   have e9:((2^d:Nat):Rat)*2*D pre=((2^d:Nat):Rat)*D (pre++[false])+((2^d:Nat):Rat)*D (pre++[true]):=by
    rw [Rat.mul_assoc,e8,Rat.mul_add]
   rw [e9]
   simp only at a1 a2 b1 b2 ⊢
   constructor<;>grind
  ·split
   ·rename_i h
    simp only
    rw [o_13s,←h0 pre h]
    constructor<;>grind
   ·simp only
    rw [Rat.natCast_add]
    constructor<;>grind
theorem o_13u {ask:List Bool→St×Int} {Q:Sp} (D:St→List Bool→Rat) (h01:∀s pre,0≤D s pre∧D s pre≤1) (h8:∀s pre,(ask pre).2=8→2*D s pre=D s (pre++[false])+D s (pre++[true])) (h0:∀s pre,(ask pre).2=0→D s pre=if s=(ask pre).1 then 1 else 0) (hQ:∀s,D s []=getQ Q s):LawOK (walkN ask 11 [] ([],0)).1 (walkN ask 11 [] ([],0)).2 Q:=fun s=>by
 obtain ⟨h1,h2⟩:=o_13t (h01 s) (h8 s) (h0 s) 11 [] ([],0)
 have e:((2^11:Nat):Rat)=2048:=rfl
 have e0:((getN s ([],0).1:Nat):Rat)=0:=rfl
 have e1:(((([]:Wm),0).2:Nat):Rat)=0:=rfl
 rw [e,hQ,e0] at h1 h2
 rw [e1] at h2
 rw [Rat.natCast_add]
 constructor<;>grind
end
section

end
section
theorem o_13v:Runs flipR CP.coin:=fun cs p hp=>by
 cases hx:cs.drop p with
 | nil=>rw [o_wc (o_we hp hx)];rfl
 | cons b x =>
  obtain ⟨h1,h2,h3⟩:=o_wd hx
  exact h1
def bnP:Nat→Nat→CP Nat
 | 0,c=>.pure c
 | n+1,c=>CP.coin.bind fun b=>bnP n (if b then c+1 else c)
def binH (n c:Nat) (cs:List Bool) (p:Nat) (d:Bool):Nat×Int×Nat×Bool:=((binM cs n c p d).2.1,(binM cs n c p d).1,(binM cs n c p d).2.2.1,(binM cs n c p d).2.2.2)
theorem o_13w:∀n c,Runs (binH n c) (bnP n c)
 | 0,c=>fun cs p hp=>rfl
 | n+1,c=>by
  refine o_wt o_13v (G:=fun b=>binH n (if b then c+1 else c)) (fun b=>o_13w n _) (fun cs p hp he=>?_) fun cs p hp he=>?_
  ·replace he:flipE cs p false=0:=he
   unfold binH
   rw [binM,if_pos he]
   rfl
  ·replace he:flipE cs p false=8:=he
   unfold binH
   rw [binM,if_neg (by rw [he];decide)]
   exact he
theorem bnP_E (g:Nat→Rat):∀n c,(bnP n c).E g=bex n fun k=>g (c+k)
 | 0,c=>rfl
 | n+1,c=>by
  show (CP.coin.bind fun b=>bnP n (if b then c+1 else c)).E g=_
  rw [CP.bind_E]
  show ((bnP n c).E g+(bnP n (c+1)).E g)/2=_
  rw [bnP_E g n c,bnP_E g n (c+1)]
  show _=mkRat 1 2*(bex n (fun k=>g (c+k))+bex n fun k=>g (c+(k+1)))
  have e:(fun k=>g (c+(k+1)))=fun k=>g (c+1+k):=funext fun k=>by rw [show c+(k+1)=c+1+k by omega]
  have h2:mkRat 1 2=1/2:=by rw [Rat.mkRat_eq_div];rfl
  rw [e,h2]
  generalize (bex n fun k=>g (c+k))=u
  generalize (bex n fun k=>g (c+1+k))=v
  grind
end
section
def thP:Nat→Nat→Nat→CP (Nat×Nat)
 | 0,y,t=>.pure (y,t)
 | n+1,y,t=>(bnP y 0).bind fun z=>thP n z (t+1)
def thinH (f:Bool) (n y t:Nat) (cs:List Bool) (p:Nat) (d:Bool):(Nat×Nat)×Int×Nat×Bool:=(((thinM cs f n y t p d).y,(thinM cs f n y t p d).t),(thinM cs f n y t p d).e,(thinM cs f n y t p d).p,(thinM cs f n y t p d).d)
theorem o_13x (f:Bool):∀n y t,Runs (thinH f n y t) (thP n y t)
 | 0,y,t=>fun cs p hp=>rfl
 | n+1,y,t=>by
  refine o_wt (o_13w y 0) (G:=fun z=>thinH f n z (t+1)) (fun z=>o_13x f n z (t+1)) (fun cs p hp he=>?_) fun cs p hp he=>?_
  ·replace he:(binM cs y 0 p false).1=0:=he
   unfold thinH
   rw [thinM,if_pos he]
   rfl
  ·replace he:(binM cs y 0 p false).1=8:=he
   unfold thinH
   rw [thinM,if_neg (by rw [he];decide)]
   exact he
end
section
def dnP (A B:Nat):Nat→Nat→Nat→Bool→CP St
 | 0,y,t,f=>.pure (y,t,f)
 | k+1,y,t,f=>if A<y then (if t=B then .pure (A,t,true) else (thP 1 y t).bind fun z=>dnP A B k z.1 z.2 f) else .pure (y,t,f)
def dnH (A B k y t:Nat) (f:Bool) (cs:List Bool) (p:Nat) (d:Bool):St×Int×Nat×Bool:=(((downM cs A B k y t f p d).y,(downM cs A B k y t f p d).t,(downM cs A B k y t f p d).f),(downM cs A B k y t f p d).e,(downM cs A B k y t f p d).p,(downM cs A B k y t f p d).d)
theorem o_13y (A B:Nat):∀k y t f,Runs (dnH A B k y t f) (dnP A B k y t f)
 | 0,y,t,f=>fun cs p hp=>rfl
 | k+1,y,t,f=>by
  unfold dnP
  by_cases h1:A<y
  ·rw [if_pos h1]
   by_cases h2:t=B
   ·rw [if_pos h2]
    intro cs p hp
    show dnH A B (k+1) y t f cs p false=((A,t,true),0,p+0,false)
    unfold dnH downM
    rw [if_pos h1,if_pos h2]
    rfl
   ·rw [if_neg h2]
    refine o_wt (o_13x f 1 y t) (G:=fun z=>dnH A B k z.1 z.2 f) (fun z=>o_13y A B k z.1 z.2 f) (fun cs p hp he=>?_) fun cs p hp he=>?_
    ·replace he:(thinM cs f 1 y t p false).e=0:=he
     unfold dnH
     rw [downM,if_pos h1,if_neg h2,if_pos he]
     rfl
    ·replace he:(thinM cs f 1 y t p false).e=8:=he
     unfold dnH
     rw [downM,if_pos h1,if_neg h2,if_neg (by rw [he];decide)]
     exact he
  ·rw [if_neg h1]
   intro cs p hp
   show dnH A B (k+1) y t f cs p false=((y,t,f),0,p+0,false)
   unfold dnH downM
   rw [if_neg h1]
   rfl
theorem o_13z (cs:List Bool):∀(k p:Nat) (d:Bool),(halfR cs k p d).1=true→(halfR cs k p d).2.1=0
 | 0,p,d,h=>rfl
 | k+1,p,d,h=>by
  unfold halfR at h ⊢
  split
  ·rename_i h1
   rw [if_pos h1] at h
   exact o_13z cs k _ _ h
  ·rename_i h1
   rw [if_neg h1] at h
   cases h
def onP (A B y t:Nat) (f:Bool):CP St:=(halfP t).bind fun b=>if b then dnP A B (B-t+1) (y+1) t f else .pure (y,t,f)
def onH (A B y t:Nat) (f:Bool) (cs:List Bool) (p:Nat) (d:Bool):St×Int×Nat×Bool:=(((oneM cs A B y t f p d).y,(oneM cs A B y t f p d).t,(oneM cs A B y t f p d).f),(oneM cs A B y t f p d).e,(oneM cs A B y t f p d).p,(oneM cs A B y t f p d).d)
theorem o_140 (A B y t:Nat) (f:Bool):Runs (onH A B y t f) (onP A B y t f):=by
 refine o_wt (o_wf t) (G:=fun b cs p d=>if b then dnH A B (B-t+1) (y+1) t f cs p d else ((y,t,f),0,p,d)) (fun b=>?_) (fun cs p hp he=>?_) fun cs p hp he=>?_
 ·cases b with
  | false=>exact o_wu (y,t,f)
  | true=>exact o_13y A B (B-t+1) (y+1) t f
 ·unfold onH oneM
  cases hb:(halfR cs t p false).1 with
  | true=>rfl
  | false=>simp only [Bool.false_eq_true,if_false];rw [he]
 ·unfold onH oneM
  cases hb:(halfR cs t p false).1 with
  | true=>rw [o_13z _ _ _ _ hb] at he;cases he
  | false=>simp only [Bool.false_eq_true,if_false];exact he
def tnP (A B:Nat):Nat→Nat→Nat→Bool→CP St
 | 0,y,t,f=>.pure (y,t,f)
 | n+1,y,t,f=>(onP A B y t f).bind fun s=>tnP A B n s.1 s.2.1 s.2.2
def tnH (A B n y t:Nat) (f:Bool) (cs:List Bool) (p:Nat) (d:Bool):St×Int×Nat×Bool:=(((addTM cs A B n y t f p d).y,(addTM cs A B n y t f p d).t,(addTM cs A B n y t f p d).f),(addTM cs A B n y t f p d).e,(addTM cs A B n y t f p d).p,(addTM cs A B n y t f p d).d)
theorem o_141 (A B:Nat):∀n y t f,Runs (tnH A B n y t f) (tnP A B n y t f)
 | 0,y,t,f=>fun cs p hp=>rfl
 | n+1,y,t,f=>by
  refine o_wt (o_140 A B y t f) (G:=fun s=>tnH A B n s.1 s.2.1 s.2.2) (fun s=>o_141 A B n s.1 s.2.1 s.2.2) (fun cs p hp he=>?_) fun cs p hp he=>?_
  ·replace he:(oneM cs A B y t f p false).e=0:=he
   unfold tnH
   rw [addTM,if_pos he]
   rfl
  ·replace he:(oneM cs A B y t f p false).e=8:=he
   unfold tnH
   rw [addTM,if_neg (by rw [he];decide)]
   exact he
end
section
theorem o_142 (s:St) (g:St→Rat):exQ g (binQ s)=bex s.1 fun k=>g (k,s.2.1+1,s.2.2):=by
 unfold binQ
 rw [o_12a s g (s.1+1) (Nat.le_refl _),o_127]
theorem th1_E (g:Nat×Nat→Rat) (y t:Nat):(thP 1 y t).E g=bex y fun k=>g (k,t+1):=by
 show ((bnP y 0).bind fun z=>thP 0 z (t+1)).E g=_
 rw [CP.bind_E]
 show (bnP y 0).E (fun a=>g (a,t+1))=_
 rw [bnP_E]
 simp only [Nat.zero_add]
theorem dn_E (A B:Nat) (g:St→Rat):∀(k y t:Nat) (f:Bool),t≤B→B<t+k→(dnP A B k y t f).E g=exQ g (downA A B (y,t,f))
 | 0,y,t,f,h1,h2=>by omega
 | k+1,y,t,f,h1,h2=>by
  unfold dnP
  by_cases hy:A<y
  ·rw [if_pos hy]
   by_cases ht:t=B
   ·rw [if_pos ht,o_12n (show ¬((y,t,f):St).1≤A by simp;omega) ht]
    show g (A,t,true)=_
    simp only [exQ];grind
   ·rw [if_neg ht,CP.bind_E,o_12o (show ¬((y,t,f):St).1≤A by simp;omega) (show ((y,t,f):St).2.1<B by simp;omega),o_vy,o_142]
    rw [th1_E]
    congr 1
    funext z
    exact dn_E A B g k z (t+1) f (by omega) (by omega)
  ·rw [if_neg hy,o_12m (show ((y,t,f):St).1≤A by simp;omega)]
   show g (y,t,f)=_
   simp only [exQ];grind
theorem on_E (A B:Nat) (g:St→Rat) (y t:Nat) (f:Bool) (ht:t≤B):(onP A B y t f).E g=mkRat 1 (2^t)*exQ g (downA A B (y+1,t,f))+(1-mkRat 1 (2^t))*g (y,t,f):=by
 unfold onP
 rw [CP.bind_E,o_wg]
 simp only [Bool.false_eq_true,if_false,if_true]
 rw [dn_E A B g _ _ _ _ ht (by omega)]
 rfl
theorem o_143 {A B:Nat} (g:St→Rat) {y t:Nat} {f:Bool} (h:okT A B (y,t,f)):(onP A B y t f).E g=exQ g (stepT A B (y,t,f)):=by
 obtain ⟨h1,h2,h3⟩:=h
 rw [on_E A B g y t f h2]
 unfold stepT
 rw [o_vy,(o_w0 _ _ _ _).2,o_12m (s:=(y,t,f)) h1]
 simp only [exQ]
 grind
theorem tn_E {A B:Nat} (g:St→Rat):∀(n y t:Nat) (f:Bool),okT A B (y,t,f)→(tnP A B n y t f).E g=exQ g (ofQ (stepT A B) (y,t,f) n)
 | 0,y,t,f,h=>by
  show g (y,t,f)=_
  simp only [ofQ,exQ];grind
 | n+1,y,t,f,h=>by
  rw [o_wz]
  show ((onP A B y t f).bind fun s=>tnP A B n s.1 s.2.1 s.2.2).E g=_
  rw [CP.bind_E,o_143 _ h]
  exact o_12i fun p hp=>tn_E g n p.1.1 p.1.2.1 p.1.2.2 ((SpOK.stepT h).ky p hp)
end
section

end
section
open Go.RowKit
end
section
open Go.RowKit
section
variable {mg:St→St→Sp}
theorem o_144 (g:St→Rat) (x:St×Rat) (B:Sp):∀(j:Nat) (out:Sp),j≤B.length→Uq out→Uq (inG mg x B out j)∧exQ g (inG mg x B out j)=exQ g out+x.2*exQ (fun t=>exQ g (mg x.1 t)) (B.take j)
 | 0,out,_,h=>⟨h,by simp only [inG,List.take_zero,List.foldl_nil,exQ];grind⟩
 | j+1,out,hj,h=>by
  obtain ⟨h1,h2⟩:=o_144 g x B j out (by omega) h
  obtain ⟨h3,h4⟩:=o_vv g (x.2*B[j].2) (atQ (mg x.1 B[j].1)) (inG mg x B out j) h1
  rw [o_11q mg x B out j (by omega)]
  refine ⟨h3,?_⟩
  rw [h4,h2,o_vo,List.take_add_one,List.getElem?_eq_getElem (by omega:j<B.length),Option.toList,o_vg]
  simp only [exQ];grind
theorem o_145 (g:St→Rat) (A B:Sp):∀i,i≤A.length→Uq (outG mg A B i)∧exQ g (outG mg A B i)=exQ (fun s=>exQ (fun t=>exQ g (mg s t)) B) (A.take i)
 | 0,_=>by simp [outG,Uq,exQ]
 | i+1,hi=>by
  obtain ⟨h1,h2⟩:=o_145 g A B i (by omega)
  rw [o_11s mg A B i hi]
  obtain ⟨h3,h4⟩:=o_144 (mg:=mg) g A[i] B B.length (outG mg A B i) (Nat.le_refl _) h1
  refine ⟨h3,?_⟩
  rw [h4,h2,List.take_length,List.take_add_one,List.getElem?_eq_getElem (by omega:i<A.length),Option.toList,o_vg]
  simp only [exQ];grind
theorem o_146 (A B:Sp):Uq (mrgG mg A B):=by rw [←o_11t];exact (o_145 (fun _=>0) A B _ (Nat.le_refl _)).1
theorem o_147 (g:St→Rat) (A B:Sp):exQ g (mrgG mg A B)=exQ (fun s=>exQ (fun t=>exQ g (mg s t)) B) A:=by
 rw [←o_11t,(o_145 g A B _ (Nat.le_refl _)).2,List.take_length]
theorem o_148 {A B:Sp} (hA:exQ (fun _=>1) A=1) (hB:exQ (fun _=>1) B=1) (hm:∀x∈A,∀y∈B,exQ (fun _=>1) (mg x.1 y.1)=1):exQ (fun _=>1) (mrgG mg A B)=1:=by
 rw [o_147,o_12i (h:=fun _=>1) fun x hx=>?_]
 ·exact hA
 ·rw [o_12i (h:=fun _=>1) fun y hy=>hm x hx y hy];exact hB
theorem o_149 {R:St→Prop} {A B:Sp} (hm:∀x∈A,∀y∈B,kyQ R (mg x.1 y.1)):kyQ R (mrgG mg A B):=by
 have h1:∀x∈A,∀(j:Nat) (out:Sp),j≤B.length→kyQ R out→kyQ R (inG mg x B out j):=by
  intro x hx j
  induction j with
  | zero=>intro out _ h p hp;exact h p (by simpa [inG] using hp)
  | succ j ih =>
   intro out hj h
   rw [o_11q mg x B out j (by omega)]
   exact o_105 (ih out (by omega) h) (ky_at (hm x hx _ (List.getElem_mem _)))
 have h2:∀i,i≤A.length→kyQ R (outG mg A B i):=by
  intro i
  induction i with
  | zero=>intro _ p hp;simp [outG] at hp
  | succ i ih =>
   intro hi
   rw [o_11s mg A B i hi]
   exact h1 _ (List.getElem_mem _) _ _ (Nat.le_refl _) (ih (by omega))
 rw [←o_11t]
 exact h2 _ (Nat.le_refl _)
end
section
variable {top:Nat} {c V:Nat→Rat} {M N:Rat}
end
end
section
theorem o_14a {ask:List Bool→St×Int} {Q:Sp} (hu:Uq Q) (f:CP St) (key:∀pre,match f.O pre with
  | some (r,c)=>ask pre=(r,0)
  | none=>(ask pre).2=8) (hE:∀g,f.E g=exQ g Q):LawOK (walkN ask 11 [] ([],0)).1 (walkN ask 11 [] ([],0)).2 Q:=by
 refine o_13u (fun s pre=>f.D pre fun r=>if r=s then 1 else 0) (fun s pre=>CP.d3 _ _ _ fun r=>by split<;>decide) (fun s pre h=>?_) (fun s pre h=>?_) fun s=>?_
 ·refine CP.d2 _ _ _ ?_
  have hk:=key pre
  cases ho:f.O pre with
  | none=>rfl
  | some rc =>
   rw [ho] at hk
   simp only at hk
   rw [hk] at h
   cases h
 ·have hk:=key pre
  cases ho:f.O pre with
  | none=>rw [ho] at hk;simp only at hk;rw [hk] at h;cases h
  | some rc =>
   rw [ho] at hk
   obtain ⟨r,c⟩:=rc
   simp only at hk
   rw [CP.d1 _ _ _ _ _ ho,hk]
   simp only [eq_comm]
 ·rw [show f.D [] _=_ from hE _,o_vt s _ hu]
def trH (R:TR):St×Int×Nat×Bool:=((R.y,R.t,R.f),R.e,R.p,R.d)
theorem o_14b {α β:Type} {F:List Bool→Nat→Bool→α×Int×Nat×Bool} {f:CP α} (hf:Runs F f) (u:α→β) {H:List Bool→Nat→Bool→β×Int×Nat×Bool} (h:∀cs p,H cs p false=(u (F cs p false).1,(F cs p false).2)):Runs H (f.bind fun a=>.pure (u a)):=by
 refine o_wt hf (G:=fun a cs p d=>(u a,0,p,d)) (fun a=>o_wu (u a)) (fun cs p hp he=>?_) fun cs p hp he=>?_
 ·rw [h,←he]
 ·rw [h];exact he
theorem map_E {α β:Type} (f:CP α) (u:α→β) (g:β→Rat):(f.bind fun a=>.pure (u a)).E g=f.E fun a=>g (u a):=by rw [CP.bind_E];rfl
def rgA (K A B n:Nat) (s:St):CP St:=if K=4 then tnP A B n s.1 s.2.1 s.2.2 else (addP (stP K A) (topC B) n s.1 s.2.2).bind fun r=>.pure (r.1,0,r.2)
theorem o_14c {K A B:Nat} (hsr:SmallR K A B) {s:St} (hw:WellR K A B s.1 s.2.1 s.2.2) (n:Nat):Runs (fun cs p d=>trH (addRM cs K A B n s.1 s.2.1 s.2.2 p d)) (rgA K A B n s):=by
 obtain ⟨y,t,f⟩:=s
 unfold rgA addRM trH
 by_cases hk:K=4
 ·simp only [if_pos hk]
  exact o_141 A B n y t f
 ·simp only [if_neg hk]
  rcases hsr with ⟨h,-⟩ | ⟨-,hG⟩
  ·exact absurd h hk
  rcases hw with ⟨h,-⟩ | ⟨-,-,h2,-⟩
  ·exact absurd h hk
  have hb:topC B≤15:=by
   have h3:2^B≤2^4:=Nat.pow_le_pow_right (by decide) hG.2.2
   unfold topC;omega
  exact o_14b (o_x2 (st:=fun cs=>stOf cs K A) (sp:=stP K A) (top:=topC B) (fun x hx=>o_xm hG (by omega)) n y f h2) (fun r=>(r.1,0,r.2)) fun cs p=>rfl
theorem rgA_E {K A B:Nat} (hsr:SmallR K A B) {s:St} (hw:WellR K A B s.1 s.2.1 s.2.2) (n:Nat) (g:St→Rat):(rgA K A B n s).E g=exQ g (smQ K A B s n):=by
 obtain ⟨y,t,f⟩:=s
 unfold rgA smQ
 by_cases hk:K=4
 ·simp only [if_pos hk]
  rcases hw with ⟨-,h⟩ | ⟨h,-⟩
  ·exact tn_E g n y t f h
  ·exact absurd hk h
 ·simp only [if_neg hk]
  rcases hsr with ⟨h,-⟩ | ⟨-,hG⟩
  ·exact absurd h hk
  rcases hw with ⟨h,-⟩ | ⟨-,h1,h2,h3⟩
  ·exact absurd h hk
  simp only at h1 h2 h3
  subst h1
  obtain ⟨c0,c1⟩:=o_10c hG
  rw [map_E,o_x1 (sp:=stP K A) (top:=topC B) (c:=chP K A) (fun x hx g=>o_xk K A x g) _ n y f h2 h3]
  unfold dstQ
  refine o_12i fun p hp=>?_
  have h2:=(o_w9 c0 c1 ⟨h2,rfl,h3⟩ n p hp).1.2.1
  obtain ⟨⟨p1,p2,p3⟩,q⟩:=p
  simp only at h2
  subst h2
  rfl
def agP (k a x r:Nat):CP Bool:=if k=1 then powP (a+1) a (x-r) else halfP (expOf k a x-expOf k a r)
theorem o_14d {k a w:Nat} (h:GoodS k a w) (x r:Nat):Runs (fun cs p d=>agOf cs k a x r p d) (agP k a x r):=fun cs p hp=>by
 unfold agP
 by_cases hk:k=1
 ·have ha:a≠0:=by have:=h.1;omega
  simp only [if_pos hk,agOf]
  exact o_ww (a+1) a ha (x-r) cs p hp
 ·have hag:agOf cs k a x r p false=halfR cs (expOf k a x-expOf k a r) p false:=by
   unfold agOf expOf
   rw [if_neg hk]
   split<;>rfl
  simp only [if_neg hk,hag]
  exact o_wf (expOf k a x-expOf k a r) cs p hp
theorem o_14e (a n:Nat):((a:Rat)/((a+1:Nat):Rat))^n=chM a n:=by
 unfold chM
 rw [Rat.mkRat_eq_div]
 rfl
theorem agP_E {k a w:Nat} (h:GoodS k a w) {x r:Nat} (hr:r≤x) (hx:x≤15) (g:Bool→Rat):(agP k a x r).E g=ratC k a r x*g true+(1-ratC k a r x)*g false:=by
 unfold agP ratC
 rw [if_pos hr]
 by_cases hk:k=1
 ·rw [if_pos hk,o_wx (Nat.lt_succ_self a) g (x-r),o_14e]
  unfold chP
  rw [if_pos hk,if_pos hk,o_10p (gs_a h hk).1 hr]
 ·rw [if_neg hk,o_wg]
  unfold chP
  rw [if_neg hk,if_neg hk,o_10m (o_10j h hk hr hx)]
def cmP (k a top:Nat):Nat→Nat→Nat→Bool→CP (Nat×Bool)
 | 0,r,x,f=>.pure (x,f)
 | n+1,r,x,f=>if x=top then cmP k a top n (r+1) x true else (agP k a x r).bind fun b=>cmP k a top n (r+1) (if b then x+1 else x) f
def cmH (k a top n r x:Nat) (f:Bool) (cs:List Bool) (p:Nat) (d:Bool):(Nat×Bool)×Int×Nat×Bool:=(((mergeL (agOf cs k a) top n r x f p d).2.1,(mergeL (agOf cs k a) top n r x f p d).2.2.1),(mergeL (agOf cs k a) top n r x f p d).1,(mergeL (agOf cs k a) top n r x f p d).2.2.2.1,(mergeL (agOf cs k a) top n r x f p d).2.2.2.2)
theorem o_14f {k a w:Nat} (h:GoodS k a w) (top:Nat):∀n r x f,Runs (cmH k a top n r x f) (cmP k a top n r x f)
 | 0,r,x,f=>fun cs p hp=>rfl
 | n+1,r,x,f=>by
  unfold cmP
  by_cases hxt:x=top
  ·rw [if_pos hxt]
   have ih:=o_14f h top n (r+1) x true
   intro cs p hp
   have e:cmH k a top (n+1) r x f cs p false=cmH k a top n (r+1) x true cs p false:=by
    unfold cmH
    rw [mergeL,if_pos hxt]
   rw [e]
   exact ih cs p hp
  ·rw [if_neg hxt]
   refine o_wt (o_14d h x r) (G:=fun b=>cmH k a top n (r+1) (if b then x+1 else x) f) (fun b=>o_14f h top n (r+1) _ f) (fun cs p hp he=>?_) fun cs p hp he=>?_
   ·unfold cmH
    rw [mergeL,if_neg hxt,if_pos he]
   ·unfold cmH
    rw [mergeL,if_neg hxt,if_neg (by rw [he];decide)]
    exact he
def clsQ (next:Nat→St→Sp) (s:St):Nat→Sp
 | 0=>[(s,1)]
 | n+1=>timesQ (next n) (clsQ next s n)
theorem o_14g:∀(n:Nat) (next:Nat→St→Sp) (g:St→Rat) (s:St),exQ g (clsQ next s (n+1))=exQ (fun t=>exQ g (clsQ (fun i=>next (i+1)) t n)) (next 0 s)
 | 0,next,g,s=>by
  show exQ g (timesQ (next 0) [(s,1)])=exQ (fun t=>exQ g [(t,1)]) (next 0 s)
  rw [o_vy]
  have e:∀t:St,exQ g [(t,1)]=g t:=fun t=>by simp only [exQ];grind
  rw [o_wy e]
  simp only [exQ];grind
 | n+1,next,g,s=>by
  show exQ g (timesQ (next (n+1)) (clsQ next s (n+1)))=exQ (fun t=>exQ g (timesQ (next (n+1)) (clsQ (fun i=>next (i+1)) t n))) (next 0 s)
  rw [o_vy,o_14g n next (fun t=>exQ g (next (n+1) t)) s]
  exact o_wy (fun t=>(o_vy g (next (n+1)) _).symm) _
theorem o_14h (top k a:Nat) (s:St):∀r,clQ top k a s r=clsQ (fun i=>stepQ top (ratC k a i)) s r
 | 0=>rfl
 | r+1=>by
  show timesQ _ _=timesQ _ _
  rw [o_14h top k a s r]
theorem cmP_E {k a w:Nat} (h:GoodS k a w) {top:Nat} (ht:top≤15) (g:Nat×Bool→Rat):∀(n r x:Nat) (f:Bool),x≤top→r≤x→r+n≤top→(f=true→x=top)→(cmP k a top n r x f).E g=exQ (fun s=>g (s.1,s.2.2)) (clsQ (fun i=>stepQ top (ratC k a (r+i))) (x,0,f) n)
 | 0,r,x,f,h1,h2,h3,h4=>by
  show g (x,f)=_
  simp only [clsQ,exQ];grind
 | n+1,r,x,f,h1,h2,h3,h4=>by
  have e:(fun i=>stepQ top (ratC k a (r+(i+1))))=fun i=>stepQ top (ratC k a (r+1+i)):=funext fun i=>by rw [show r+(i+1)=r+1+i by omega]
  rw [o_14g,(o_w1 _ top _ (x,0,f)).2,e]
  unfold cmP
  by_cases hxt:x=top
  ·rw [if_pos hxt,if_pos hxt]
   exact cmP_E h ht g n (r+1) x true h1 (by omega) (by omega) fun _=>hxt
  ·have hf0:f=false:=by
    cases f with
    | false=>rfl
    | true=>exact absurd (h4 rfl) hxt
   subst hf0
   rw [if_neg hxt,if_neg hxt,CP.bind_E,agP_E h h2 (by omega)]
   have i1:=cmP_E h ht g n (r+1) (x+1) false (by omega) (by omega) (by omega) (by simp)
   simp only [Bool.false_eq_true,if_false,if_true,Nat.add_zero]
   rw [i1]
   by_cases hrx:r=x
   ·subst hrx
    rw [o_110 h (by omega)]
    grind
   ·rw [cmP_E h ht g n (r+1) x false h1 (by omega) (by omega) (by simp)]
theorem thP_E (g:Nat×Nat→Rat) (f:Bool):∀(n y t:Nat),(thP n y t).E g=exQ (fun s=>g (s.1,s.2.1)) (thinQ (y,t,f) n)
 | 0,y,t=>by
  show g (y,t)=_
  simp only [thinQ,ofQ,exQ];grind
 | n+1,y,t=>by
  unfold thinQ
  rw [o_wz]
  show ((bnP y 0).bind fun z=>thP n z (t+1)).E g=_
  rw [CP.bind_E,bnP_E,o_142]
  congr 1
  funext z
  rw [Nat.zero_add]
  exact thP_E g f n z (t+1)
def mgR (K A B:Nat) (s o:St):Sp:=if K=4 then mgT A B s o else mgQ (topC B) K A s o
def rgM (K A B:Nat) (s o:St):CP St:=if K=4 then (thP (o.2.1-s.2.1) s.1 s.2.1).bind fun a=>(thP (s.2.1-o.2.1) o.1 o.2.1).bind fun b=>dnP A B (B-a.2+1) (a.1+b.1) a.2 (s.2.2 || o.2.2) else (cmP K A (topC B) o.1 0 s.1 s.2.2).bind fun r=>.pure (r.1,0,r.2 || o.2.2)
theorem o_14i {K A B:Nat} (hsr:SmallR K A B) (s o:St):Runs (fun cs p d=>trH (mergeRM cs K A B s.1 s.2.1 s.2.2 o.1 o.2.1 o.2.2 p d)) (rgM K A B s o):=by
 obtain ⟨y,t,f⟩:=s
 obtain ⟨z,u,g⟩:=o
 unfold rgM mergeRM
 by_cases hk:K=4
 ·simp only [if_pos hk]
  refine o_wt (o_13x f (u-t) y t) (G:=fun a cs p d=>trH (if (thinM cs g (t-u) z u p d).e=0 then downM cs A B (B-a.2+1) (a.1+(thinM cs g (t-u) z u p d).y) a.2 (f || g) (thinM cs g (t-u) z u p d).p (thinM cs g (t-u) z u p d).d else thinM cs g (t-u) z u p d)) (fun a=>?_) (fun cs p hp he=>?_) fun cs p hp he=>?_
  ·refine o_wt (o_13x g (t-u) z u) (G:=fun b=>dnH A B (B-a.2+1) (a.1+b.1) a.2 (f || g)) (fun b=>o_13y A B _ _ _ _) (fun cs p hp he=>?_) fun cs p hp he=>?_
   ·replace he:(thinM cs g (t-u) z u p false).e=0:=he
    simp only [if_pos he]
    rfl
   ·replace he:(thinM cs g (t-u) z u p false).e=8:=he
    rw [if_neg (by rw [he];decide)]
    exact he
  ·replace he:(thinM cs f (u-t) y t p false).e=0:=he
   unfold mergeTM
   simp only [if_pos he]
   rfl
  ·replace he:(thinM cs f (u-t) y t p false).e=8:=he
   unfold mergeTM
   simp only
   rw [if_neg (by rw [he];decide)]
   exact he
 ·simp only [if_neg hk]
  rcases hsr with ⟨h,-⟩ | ⟨-,hG⟩
  ·exact absurd h hk
  exact o_14b (o_14f hG (topC B) z 0 y f) (fun r=>(r.1,0,r.2 || g)) fun cs p=>rfl
theorem rgM_E {K A B:Nat} (hsr:SmallR K A B) {s o:St} (hs:WellR K A B s.1 s.2.1 s.2.2) (ho:WellR K A B o.1 o.2.1 o.2.2) (g:St→Rat):(rgM K A B s o).E g=exQ g (mgR K A B s o):=by
 unfold rgM mgR
 by_cases hk:K=4
 ·simp only [if_pos hk]
  rcases hs with ⟨-,hs⟩ | ⟨h,-⟩
  rotate_left
  ·exact absurd hk h
  rcases ho with ⟨-,ho⟩ | ⟨h,-⟩
  rotate_left
  ·exact absurd hk h
  obtain ⟨y,t,f⟩:=s
  obtain ⟨z,u,fo⟩:=o
  unfold mgT
  rw [o_vy,o_12t,o_vo,CP.bind_E,thP_E _ f]
  refine o_12i fun p hp=>?_
  rw [o_vo,CP.bind_E,thP_E _ fo]
  refine o_12i fun q hq=>?_
  have h1:=((SpOK.thin (y,t,f) (u-t)).ky p hp).2
  have h2:p.1.2.1=t+(u-t):=by rw [h1]
  have h3:=hs.2.1
  have h4:=ho.2.1
  simp only at h3 h4
  exact dn_E A B g _ _ _ _ (by simp only [h2];omega) (by simp only [h2];omega)
 ·simp only [if_neg hk]
  rcases hsr with ⟨h,-⟩ | ⟨-,hG⟩
  ·exact absurd h hk
  rcases hs with ⟨h,-⟩ | ⟨-,h1,h2,h3⟩
  ·exact absurd h hk
  rcases ho with ⟨h,-⟩ | ⟨-,h4,h5,h6⟩
  ·exact absurd h hk
  have hb:topC B≤15:=by
   have h3:2^B≤2^4:=Nat.pow_le_pow_right (by decide) hG.2.2
   unfold topC;omega
  obtain ⟨y,t,f⟩:=s
  obtain ⟨z,u,fo⟩:=o
  simp only at h1 h2 h3 h4 h5 h6
  subst h1
  unfold mgQ
  have e:=cmP_E hG hb (fun r=>g (r.1,0,r.2 || fo)) z 0 y f h2 (Nat.zero_le _) (by rw [Nat.zero_add];exact h5) h3
  simp only [Nat.zero_add] at e
  rw [o_vy,o_14h,map_E,e,←o_14h]
  refine o_12i fun p hp=>?_
  have h2:p.1.2.1=0:=((cl_ok hG ⟨h2,rfl,h3⟩ z p hp).1).2.1
  obtain ⟨⟨p1,p2,p3⟩,q⟩:=p
  simp only at h2
  subst h2
  simp only [fullQ,exQ];grind
end
section
open Go.RowKit
theorem o_14j {D C M:Nat} {out:Sp} (h:∀p∈out,Gr D C p.2) {s:St} {x:Rat} (hx:Gr D M x):∀p∈addQ out s x,Gr D (C+M) p.2:=by
 intro p hp
 rcases o_w2 hp with hp | rfl
 ·exact (h p hp).le (by omega)
 ·exact (o_zq h _).add hx
theorem o_14k {D C:Nat} {f:Bool} {x:St×Rat} {B out:Sp} (ho:∀p∈out,Gr D C p.2) (hB:∀y∈B,Gr D 1 (x.2*y.2)):∀j,j≤B.length→∀p∈joI f x B out j,Gr D (C+j) p.2
 | 0,_=>fun p hp=>ho p (by simpa [joI] using hp)
 | j+1,hj=>by
  rw [o_12p f x B out j hj]
  exact o_14j (o_14k ho hB j (by omega)) (hB _ (List.getElem_mem _))
theorem o_14l {D:Nat} {f:Bool} {A B:Sp} (hAB:∀x∈A,∀y∈B,Gr D 1 (x.2*y.2)):∀i,i≤A.length→∀p∈joO f A B i,Gr D (i*B.length) p.2
 | 0,_=>fun p hp=>by simp [joO] at hp
 | i+1,hi=>by
  rw [o_12q f A B i hi,Nat.add_mul,Nat.one_mul]
  exact o_14k (o_14l hAB i (by omega)) (hAB _ (List.getElem_mem _)) _ (Nat.le_refl _)
theorem o_14m (s:St):∀n,(thinQ s n).length≤s.1+1
 | n=>by
  have h:=SpOK.thin s n
  have h1:((thinQ s n).map (·.1)).length≤((List.range (s.1+1)).map fun k=>((k,s.2.1+n,s.2.2):St)).length:=by
   refine List.Nodup.length_le_of_subset h.uq fun t ht=>?_
   obtain ⟨p,hp,rfl⟩:=List.mem_map.1 ht
   obtain ⟨h1,h2⟩:=h.ky p hp
   refine List.mem_map.2 ⟨p.1.1,List.mem_range.2 (by omega),?_⟩
   rw [←h2]
  simpa using h1
set_option maxHeartbeats 4000000 in
theorem o_14n (s:St) (z:Int) (n:Nat) (hz:max 0 z=n) (hK:s.1≤900) (hT:s.2.1+n≤1000) (hKn:(n+1)*s.1≤80000):Eqn Tryz.prog o_dw [.d (.agg (stD s)),.d (.int .i64 z)] [] (.mp 0) [spO (thinQ s n)]:=by
 have hsu:=o_xc s
 rw [show [(s,(1:Rat))]=thinQ s 0 from rfl] at hsu
 have hti:∀i,i<n→Eqn Tryz.prog o_aa [.mp 0,.fn (.func o_fq) []] [spO (thinQ s i)] (.mp 1) [spO (thinQ s i),spO (thinQ s (i+1))]:=fun i hi=>by
  have h:=SpOK.thin s i
  have hl:=o_14m s i
  have hcl:∀t:St,(t.1≤s.1∧t.2=(s.2.1+i,s.2.2))→NextJ binQ (2^s.1) 1000 t∧Eqn Tryz.prog o_fq [.d (.agg (stD t))] [] (.mp 0) [spO (binQ t)]:=fun t ht =>
   ⟨((SpOK.bin t).mono ht.1 fun _ h=>h).nextJ (Nat.le_trans (o_139 t _) (by omega)) (by omega),o_136 t (by omega) (by rw [ht.2];simp only;omega)⟩
  have hef:i*s.1+s.1≤90000:=by
   have h1:(i+1)*s.1≤(n+1)*s.1:=Nat.mul_le_mul_right _ (by omega)
   rw [Nat.add_mul,Nat.one_mul] at h1
   omega
  exact o_138 (f:=o_fq) (next:=binQ) (fun t:St=>t.1≤s.1∧t.2=(s.2.1+i,s.2.2)) (thinQ s i) (2^s.1) (2^(i*s.1)) 1 1000 1000 (1000*1000) h.uq (fun p hp=>h.ky p (List.mem_filter.1 hp).1) h.nz (Nat.le_trans (List.length_filter_le _ _) (Nat.le_trans hl (by omega))) (Nat.le_trans hl (by omega)) (Nat.two_pow_pos _) (Nat.le_refl _) h.gr (Nat.two_pow_pos _) hcl (o_13c (by omega) (by omega) hef) (by omega) (by omega)
 refine Eqn.gen [1] o_dy (by simp) (by simp) (by rfl) (by decide) (by simp) (by simp [spO]) ?_
 refine cc (c':=?z234) ?_ ?_
 case refine_1=>cbv<;>exact rfl
 try simp only [spO,stD] at hsu hti ⊢
 refine A00 ?_;try with_reducible exact tt
 refine CallS.nX (hsu) (R1 hz ?_);try with_reducible exact tt
 refine A10 hz ?_;try with_reducible exact tt
 refine AW.loopG (α:=Nat) (fun i=>setS (List.replicate 16 .junk) [(1,.d (.int .i64 z)),(2,.p 0 0),(5,.mp 1),(9,.d (.int .i64 n)),(10,.d (.int .i64 (i:Nat)))]) (fun i=>[some ⟨35,[.d (.int .i64 s.1),.d (.int .i64 s.2.1),.d (.bool s.2.2)]⟩,some ⟨1000391,(spD rcD (thinQ s i)).map .d⟩]) (fun i=>i≤n) (fun i=>n-i) 0 ?_ (Nat.zero_le _) ?_ ?_ ?_
 ·intro i hi;simp
 ·simp
 ·simp
 rintro i hi
 simp
 by_cases hi2:i<n
 ·have hi3:(i:Int)<n:=by omega
  have ew:IntKind.i64.wrap ((i:Int)+1)=((i+1:Nat):Int):=by rw [w64 (by omega) (by omega)];omega
  have ht:=hti i hi2
  refine A10 (fs hi2 hi3) ?_;try with_reducible exact tt
  refine CallS.g [1] (ht) (R1 ew ?_);try with_reducible exact tt
  refine A10 ew ?_;try with_reducible exact tt
  refine ⟨i+1,1,2,by omega,by omega,by omega,?_,?_⟩
  ·simp [swT,swH,sw,Ob.sw,V.ren,V.rens]
  ·simp [swT,swH,sw,Ob.sw,V.ren,V.rens]
 ·have h2:i=n:=by omega
  subst h2
  refine A00 ?_;try with_reducible exact tt
  done
end
section
open Go.RowKit
set_option maxHeartbeats 8000000 in
theorem o_14o {A B:Nat} (h:ThS A B) (s o:St) (hs:okT A B s) (ho:okT A B o):Eqn Tryz.prog o_as [.d (parD 4 A B),.d (.agg (stD s)),.d (.agg (stD o))] [] (.mp 0) [spO (mgT A B s o)]:=by
 obtain ⟨s1,s2,s3⟩:=hs
 obtain ⟨o1,o2,o3⟩:=ho
 have hb9:=h.b
 have ha9:=h.a
 have hn:=h.n
 have hAB:(B+1)*A≤1000:=by
  have e1:(A+1)*(B+1)=A*(B+1)+(B+1):=by rw [Nat.add_mul,Nat.one_mul]
  rw [Nat.mul_comm]
  omega
 obtain ⟨na,hna⟩:∃na,na=o.2.1-s.2.1:=⟨_,rfl⟩
 obtain ⟨nb,hnb⟩:∃nb,nb=s.2.1-o.2.1:=⟨_,rfl⟩
 have hka:(na+1)*s.1≤1000:=Nat.le_trans (Nat.mul_le_mul (show na+1≤B+1 by omega) s1) hAB
 have hkb:(nb+1)*o.1≤1000:=Nat.le_trans (Nat.mul_le_mul (show nb+1≤B+1 by omega) o1) hAB
 have hta:=o_14n s ((o.2.1:Int)-s.2.1) na (by omega) (by omega) (by omega) (by omega)
 have htb:=o_14n o ((s.2.1:Int)-o.2.1) nb (by omega) (by omega) (by omega) (by omega)
 have ha:=SpOK.thin s na
 have hb:=SpOK.thin o nb
 have haat:=o_ze (thinQ s na) ha.uq ha.nz (Nat.le_trans (o_14m s na) (by omega)) (ha.rs (by rw [Nat.add_mul] at hka;omega))
 have hbat:=o_ze (thinQ o nb) hb.uq hb.nz (Nat.le_trans (o_14m o nb) (by omega)) (hb.rs (by rw [Nat.add_mul] at hkb;omega))
 have hA:=ha.at
 have hB:=hb.at
 have hAl:(atQ (thinQ s na)).length≤1000:=Nat.le_trans (o_zw _) (Nat.le_trans (o_14m s na) (by omega))
 have hBl:(atQ (thinQ o nb)).length≤1000:=Nat.le_trans (o_zw _) (Nat.le_trans (o_14m o nb) (by omega))
 have hrA:=hA.rs (by rw [Nat.add_mul] at hka;omega)
 have hrB:=hB.rs (by rw [Nat.add_mul] at hkb;omega)
 have hmg:mgT A B s o=timesQ (downA A B) (joQ (s.2.2 || o.2.2) (atQ (thinQ s na)) (atQ (thinQ o nb))):=by rw [hna,hnb];rfl
 obtain ⟨FF,hFF⟩:∃FF,FF=(s.2.2 || o.2.2):=⟨_,rfl⟩
 rw [←hFF] at hmg
 have hj:SpOK (na*s.1+nb*o.1) (fun t=>t.1≤A+A∧t.2=(max s.2.1 o.2.1,FF)) (joQ FF (atQ (thinQ s na)) (atQ (thinQ o nb))):=hA.join hB fun t u ht hu=>⟨by simp only;omega,by simp only [ht.2,Prod.mk.injEq,and_true];omega⟩
 have hkT:na*s.1+nb*o.1≤2000:=by rw [Nat.add_mul] at hka hkb;omega
 have hX:(A+A)*(B+1)≤80000:=by
  have e1:(A+1)*(B+1)=A*(B+1)+(B+1):=by rw [Nat.add_mul,Nat.one_mul]
  have e2:(A+A)*(B+1)=2*(A*(B+1)):=by rw [←Nat.two_mul,Nat.mul_assoc]
  omega
 have hJ:(A+1)*((B+1)*2)≤2000:=by have:=Nat.mul_assoc (A+1) (B+1) 2;omega
 have hfx:FF=true→max s.2.1 o.2.1=B:=by
  rw [hFF]
  simp only [Bool.or_eq_true]
  rintro (h | h)
  ·have:=s3 h;omega
  ·have:=o3 h;omega
 have hcl:∀t:St,(t.1≤A+A∧t.2=(max s.2.1 o.2.1,FF))→NextJ (downA A B) (2^((A+A)*(B-max s.2.1 o.2.1))) ((A+1)*((B+1)*2)) t∧Eqn Tryz.prog o_dz [.d (.agg (stD t)),.p 0 0] [PO 4 A B] (.mp 1) [PO 4 A B,spO (downA A B t)]:=by
  intro t ht
  have e1:t.2.1+(B-max s.2.1 o.2.1)=B:=by rw [ht.2];simp only;omega
  have e2:t.2.2=true→t.2.1=B:=by rw [ht.2];exact hfx
  have hd:=SpOK.down (A:=A) (B:=B) (X:=A+A) (B-max s.2.1 o.2.1) t e1 ht.1 e2
  refine ⟨hd.nextJ (o_13b hd.uq hd.ky) (by omega),?_⟩
  have hdn:=o_13d h (X:=A+A) (by omega) hX (B-max s.2.1 o.2.1) t e1 ht.1 e2
  refine Eqn.gen [0,2] o_e1 (by simp) (by simp) (by rfl) (by decide) (by simp) (by simp [spO,PO]) ?_
  refine cc (c':=?z235) ?_ ?_
  case refine_1=>cbv<;>exact rfl
  try simp only [spO,stD,parD,PO] at hdn ⊢
  generalize spD rcD _=L at *
  refine A00 ?_;try with_reducible exact tt
  refine CallS.nX (hdn) (R0 ?_);try with_reducible exact tt
 have hef:na*s.1+nb*o.1+(A+A)*(B-max s.2.1 o.2.1)≤90000:=by
  have:(A+A)*(B-max s.2.1 o.2.1)≤(A+A)*(B+1):=Nat.mul_le_mul_left _ (by omega)
  omega
 have hjl:(joQ FF (atQ (thinQ s na)) (atQ (thinQ o nb))).length≤2000:=by
  have h1:((joQ FF (atQ (thinQ s na)) (atQ (thinQ o nb))).map (·.1)).length≤((List.range (A+A+1)).map fun k=>((k,max s.2.1 o.2.1,FF):St)).length:=by
   refine List.Nodup.length_le_of_subset hj.uq fun t ht=>?_
   obtain ⟨p,hp,rfl⟩:=List.mem_map.1 ht
   obtain ⟨h1,h2⟩:=hj.ky p hp
   refine List.mem_map.2 ⟨p.1.1,List.mem_range.2 (by omega),?_⟩
   rw [←h2]
  rw [List.length_map,List.length_map,List.length_range] at h1
  omega
 have hti:=o_137 (f:=o_dz) (next:=downA A B) (T1:=29) (x0:=.int .i64 4) (x1:=.int .i64 A) (x2:=.int .i64 B) (by decide) (fun t:St=>t.1≤A+A∧t.2=(max s.2.1 o.2.1,FF)) (joQ FF (atQ (thinQ s na)) (atQ (thinQ o nb))) (2^((A+A)*(B-max s.2.1 o.2.1))) (2^(na*s.1+nb*o.1)) 1 2000 ((A+1)*((B+1)*2)) (2000*((A+1)*((B+1)*2))) hj.uq (fun p hp=>hj.ky p (List.mem_filter.1 hp).1) hj.nz (Nat.le_trans (List.length_filter_le _ _) hjl) (Nat.le_trans hjl (by omega)) (Nat.two_pow_pos _) (Nat.le_refl _) hj.gr (Nat.two_pow_pos _) hcl (o_13c (by omega) (by omega) hef) (by omega) (Nat.mul_pos (by omega) (by omega))
 rw [←hmg] at hti
 have hAB2:∀x∈atQ (thinQ s na),∀y∈atQ (thinQ o nb),Gr (2^(na*s.1)*2^(nb*o.1)) 1 (x.2*y.2):=fun x hx y hy=>(hA.gr x hx).mul (hB.gr y hy)
 have hkeyA:=hA.ky
 have hkeyB:=hB.ky
 unfold joQ at hti
 clear hj hjl hmg hef hcl hJ hX ha hb hA hB
 obtain ⟨AL,hAL⟩:∃AL,AL=atQ (thinQ s na):=⟨_,rfl⟩
 obtain ⟨BL,hBL⟩:∃BL,BL=atQ (thinQ o nb):=⟨_,rfl⟩
 rw [←hAL,←hBL] at hti
 rw [←hAL] at haat hAl hrA hAB2 hkeyA
 rw [←hBL] at hbat hBl hrB hAB2 hkeyB
 clear hAL hBL
 have hsz:size (1000000*(2^(na*s.1)*2^(nb*o.1)))≤100000:=by
  have:=o_13c (L:=1000) (J:=1000) (e:=na*s.1) (f:=nb*o.1) (by omega) (by omega) (by omega)
  exact this
 obtain ⟨DD,hDD⟩:∃DD,DD=2^(na*s.1)*2^(nb*o.1):=⟨_,rfl⟩
 have hDp:0<DD:=by rw [hDD];exact Nat.mul_pos (Nat.two_pow_pos _) (Nat.two_pow_pos _)
 rw [←hDD] at hsz hAB2
 have hADl:=o_v5 rcD (fun _=>rfl) AL
 have hBDl:=o_v5 rcD (fun _=>rfl) BL
 have hgetA:=o_zy AL
 have hgetB:=o_zy BL
 have hgO:=o_14l (f:=FF) hAB2
 refine Eqn.gen [6] o_au (by simp) (by simp) (by rfl) (by decide) (by simp) (by simp [spO]) ?_
 obtain ⟨K,T,F⟩:=s
 obtain ⟨K2,T2,F2⟩:=o
 simp only at s1 s2 o1 o2 hFF hta htb haat hbat hti hkeyA hkeyB
 have e1:IntKind.i64.wrap ((T2:Int)-T)=(T2:Int)-T:=w64 (by omega) (by omega)
 have e2:IntKind.i64.wrap ((T:Int)-T2)=(T:Int)-T2:=w64 (by omega) (by omega)
 refine cc (c':=?z236) ?_ ?_
 case refine_1=>cbv<;>exact rfl
 try simp only [spO,stD,parD] at hta htb haat hbat hti ⊢
 generalize spD rcD (mgT A B (K,T,F) (K2,T2,F2))=LM at *
 generalize spD rcD (thinQ (K,T,F) na)=LA at *
 generalize spD rcD (thinQ (K2,T2,F2) nb)=LB at *
 refine A10 (fs e1 e2) ?_;try with_reducible exact tt
 refine CallS.nX (hta) (R1 e2 ?_);try with_reducible exact tt
 refine CallS.nX (htb) (R1 e2 ?_);try with_reducible exact tt
 refine A00 ?_;try with_reducible exact tt
 refine CallS.g [3] (haat) (R0 ?_);try with_reducible exact tt
 refine AW.loopG (α:=Nat) (fun i=>setS (List.replicate 79 .junk) [(3,.p 0 0),(4,.p 1 0),(5,.p 2 0),(7,.mp 3),(8,.mp 4),(9,.mp 5),(37,.d (.sl AL.length (spD rcD AL))),(38,.d (.int .i64 AL.length)),(39,.d (.int .i64 (i:Nat)))]) (fun i=>[some ⟨29,[.d (.int .i64 (4:Nat)),.d (.int .i64 A),.d (.int .i64 B)]⟩,some ⟨35,[.d (.int .i64 K),.d (.int .i64 T),.d (.bool F)]⟩,some ⟨35,[.d (.int .i64 K2),.d (.int .i64 T2),.d (.bool F2)]⟩,some ⟨1000391,LA.map .d⟩,some ⟨1000391,LB.map .d⟩,some ⟨1000391,(spD rcD (joO FF AL BL i)).map .d⟩]) (fun i=>i≤AL.length) (fun i=>AL.length-i) 0 ?_ (Nat.zero_le _) ?_ ?_ ?_
 ·intro i hi;simp
 ·simp
 ·simp [joO,spD]
 rintro i hi
 simp
 by_cases hi2:i<AL.length
 ·have hi3:(i:Int)<AL.length:=by omega
  obtain ⟨x1,x2,x3,q,N1,N2,N3,hp,hN,hg⟩:=hgetA i hi2
  have hxm:((x1,x2,x3),q)∈AL:=by rw [←hp];exact List.getElem_mem hi2
  have hky:=hkeyA _ hxm
  have hxr:=hrA _ hxm
  have hgo:=hgO i hi
  have hnx:=o_12q FF AL BL i hi2
  rw [hp] at hnx
  have ewi:IntKind.i64.wrap ((i:Int)+1)=((i+1:Nat):Int):=by rw [w64 (by omega) (by omega)];omega
  have hb6:i*6+6≤AL.length*6:=by omega
  have hb7:i*6<AL.length*6:=by omega
  obtain ⟨hx1,hx2⟩:=hky
  simp only [Prod.mk.injEq] at hx1 hx2
  refine A10 (fs hi2 (fs hi3 (fs hg (fs hADl (fs hb6 hb7))))) ?_;try with_reducible exact tt
  refine CallS.g [4] (hbat) (R0 ?_);try with_reducible exact tt
  refine AW.loopG (α:=Nat) (fun j=>setS (List.replicate 79 .junk) [(3,.p 0 0),(4,.p 1 0),(5,.p 2 0),(7,.mp 3),(8,.mp 4),(9,.mp 5),(11,.p 6 0),(37,.d (.sl AL.length (spD rcD AL))),(38,.d (.int .i64 AL.length)),(39,.d (.int .i64 (i:Nat))),(44,.d (.sl BL.length (spD rcD BL))),(45,.d (.int .i64 BL.length)),(46,.d (.int .i64 (j:Nat)))]) (fun j=>[some ⟨29,[.d (.int .i64 (4:Nat)),.d (.int .i64 A),.d (.int .i64 B)]⟩,some ⟨35,[.d (.int .i64 K),.d (.int .i64 T),.d (.bool F)]⟩,some ⟨35,[.d (.int .i64 K2),.d (.int .i64 T2),.d (.bool F2)]⟩,some ⟨1000391,LA.map .d⟩,some ⟨1000391,LB.map .d⟩,some ⟨1000391,(spD rcD (joI FF ((x1,x2,x3),q) BL (joO FF AL BL i) j)).map .d⟩,some ⟨54,[.d (.int .i64 x1),.d (.int .i64 x2),.d (.bool x3),.d N1,.d N2,.d N3]⟩]) (fun j=>j≤BL.length) (fun j=>BL.length-j) 0 ?_ (Nat.zero_le _) ?_ ?_ ?_
  ·intro j hj;simp
  ·simp
  ·simp [joI]
  rintro j hj
  simp
  by_cases hj2:j<BL.length
  ·have hj3:(j:Int)<BL.length:=by omega
   obtain ⟨y1,y2,y3,r,M1,M2,M3,hpy,hM,hgy⟩:=hgetB j hj2
   have hym:((y1,y2,y3),r)∈BL:=by rw [←hpy];exact List.getElem_mem hj2
   obtain ⟨hy1,-⟩:=hkeyB _ hym
   simp only at hy1
   have hyr:=hrB _ hym
   have hnj:=o_12p FF ((x1,x2,x3),q) BL (joO FF AL BL i) j hj2
   rw [hpy] at hnj
   simp only at hnj
   have hgi:=o_14k (f:=FF) hgo (hAB2 _ hxm) j hj
   have hqr:=hAB2 _ hxm _ hym
   have hcap:i*BL.length+j+1≤1000000:=by
    have:(i+1)*BL.length≤1000*1000:=Nat.mul_le_mul (by omega) hBl
    rw [Nat.add_mul,Nat.one_mul] at this
    omega
   have hadd:=o_x8 (joI FF ((x1,x2,x3),q) BL (joO FF AL BL i) j) (x1+y1,x2,FF) (q*r) (((o_zq hgi _).le (C:=1000000) (by omega)).rs hDp (by omega) hsz) ((hqr.le (C:=1000000) (by omega)).rs hDp (by omega) hsz)
   rw [←hnj] at hadd
   have hmul:=o_sy q r hxr hyr
   have ews:IntKind.i64.wrap ((x1:Int)+y1)=((x1+y1:Nat):Int):=by rw [w64 (by omega) (by omega)];omega
   have ewj:IntKind.i64.wrap ((j:Int)+1)=((j+1:Nat):Int):=by rw [w64 (by omega) (by omega)];omega
   have hc6:j*6+6≤BL.length*6:=by omega
   have hc7:j*6<BL.length*6:=by omega
   obtain ⟨xy,hxy⟩:∃xy,xy=x1+y1:=⟨_,rfl⟩
   rw [←hxy] at hadd ews
   rw [o_x5 q,o_x5 r,o_x5 (q*r),hN,hM] at hmul
   rw [o_x5 (q*r)] at hadd
   obtain ⟨P1,P2,P3,hP⟩:∃P1 P2 P3,rcD (q*r)=[P1,P2,P3]:=⟨_,_,_,rfl⟩
   rw [hP] at hmul hadd
   simp only [spO,stD] at hadd
   cases F with
   | true =>
    simp only [Bool.true_or] at hFF
    subst hFF
    refine A10 (fs hj2 (fs hj3 (fs hgy (fs hBDl (fs hc6 (fs hc7 ews)))))) ?_;try with_reducible exact tt
    refine CallS.pu (hmul) (R0 ?_);try with_reducible exact tt
    refine CallS.g [5] (hadd) (R0 ?_);try with_reducible exact tt
    refine A10 ewj ?_;try with_reducible exact tt
    refine ⟨j+1,5,5,⟨by omega,by omega⟩,by omega,by omega,?_,?_⟩
    ·simp [swT,swH,sw,Ob.sw,V.ren,V.rens]
    ·simp [swT,swH,sw,Ob.sw,V.ren,V.rens]
   | false =>
    simp only [Bool.false_or] at hFF
    subst hFF
    refine A10 (fs hj2 (fs hj3 (fs hgy (fs hBDl (fs hc6 (fs hc7 ews)))))) ?_;try with_reducible exact tt
    refine CallS.pu (hmul) (R0 ?_);try with_reducible exact tt
    refine CallS.g [5] (hadd) (R0 ?_);try with_reducible exact tt
    refine A10 ewj ?_;try with_reducible exact tt
    refine ⟨j+1,5,5,⟨by omega,by omega⟩,by omega,by omega,?_,?_⟩
    ·simp [swT,swH,sw,Ob.sw,V.ren,V.rens]
    ·simp [swT,swH,sw,Ob.sw,V.ren,V.rens]
  ·have h2:j=BL.length:=by omega
   subst h2
   rw [←hnx]
   refine A00 ?_;try with_reducible exact tt
   refine A10 ewi ?_;try with_reducible exact tt
   refine ⟨i+1,5,5,⟨by omega,by omega⟩,by omega,by omega,?_,?_⟩
   ·simp [swT,swH,sw,Ob.sw,V.ren,V.rens]
   ·simp [swT,swH,sw,Ob.sw,V.ren,V.rens]
 ·have h2:i=AL.length:=by omega
  subst h2
  refine A00 ?_;try with_reducible exact tt
  refine CallS.g [5,0] (hti) (R0 ?_);try with_reducible exact tt
  done
end
section
open Go.RowKit
theorem o_14p {G a b:Nat} {q:Rat} {C:Nat} (h:Gr (G^a) C q) (hab:a≤b):Gr (G^b) C q:=by
 have:=h.scale (G^(b-a))
 rwa [←Nat.pow_add,show a+(b-a)=b by omega] at this
theorem o_14q {k a w:Nat} (h:GoodS k a w) {A B:Sp} {DA CA DB CB:Nat} (okA:oklQ (topC w) A) (okB:oklQ (topC w) B) (uA:Uq A) (uB:Uq B) (oA:exQ (fun _=>1) A=1) (oB:exQ (fun _=>1) B=1) (dA:0<DA) (cA:1≤CA) (dB:0<DB) (cB:1≤CB) (zA:size DA≤20) (yA:size CA≤20) (zB:size DB≤20) (yB:size CB≤20) (gA:∀p∈A,Gr DA CA p.2) (gB:∀p∈B,Gr DB CB p.2) :
  ∃G M,MrgOK k a w (mgQ (topC w) k a) A B G M 17 17∧0<G∧1≤M∧size G≤60∧size M≤60∧(∀p∈mrgG (mgQ (topC w) k a) A B,Gr G (4913*M) p.2)∧oklQ (topC w) (mrgG (mgQ (topC w) k a) A B):=by
 have h8:2^w≤16:=Nat.pow_le_pow_right (n:=2) (by omega) h.2.2
 have h7:topC w≤15:=by unfold topC;omega
 obtain ⟨G0,hG,hG63,hc,hr⟩:=o_10r h
 have lA:A.length≤17:=Nat.le_trans (o_11h uA okA) (by omega)
 have lB:B.length≤17:=Nat.le_trans (o_11h uB okB) (by omega)
 have qq:∀L:Sp,exQ (fun _=>1) L=1→1≤L.length:=fun L hL=>by
  rcases L with _ | ⟨p,L⟩
  ·exact absurd hL (by decide)
  ·simp
 have sG:size G0≤1:=o_md (Nat.lt_of_le_of_lt hG63 (by decide))
 have s24:size 80≤1:=o_md (by decide)
 have pG:=fun n=>o_10a G0 sG n
 have p24:=fun n=>o_10a 80 s24 n
 obtain ⟨G,hGe⟩:∃G,G=DA*DB*G0^16:=⟨_,rfl⟩
 obtain ⟨M,hMe⟩:∃M,M=CA*CB*80^16:=⟨_,rfl⟩
 have Gp:0<G:=by rw [hGe];exact Nat.mul_pos (Nat.mul_pos dA dB) (Nat.pow_pos hG)
 have Mp:1≤M:=by rw [hMe];exact Nat.mul_pos (Nat.mul_pos cA cB) (Nat.pow_pos (by decide))
 have Gs:size G≤60:=by
  rw [hGe]
  have:=o_sk (DA*DB) (G0^16);have:=o_sk DA DB;have:=pG 16;omega
 have Ms:size M≤60:=by
  rw [hMe]
  have:=o_sk (CA*CB) (80^16);have:=o_sk CA CB;have:=p24 16;omega
 have mgm:∀x∈A,∀y∈B,∀p∈atQ (mgQ (topC w) k a x.1 y.1),Gr (G0^16) (80^16) p.2:=fun x hx y hy p hp=>by
  have y15:y.1.1≤15:=by have:=(okB y hy).1.1;omega
  have h1:=mg_gr h hr (okA x hx).1 (o:=y.1) y15 p (List.mem_filter.1 ((o_vn _).mem_iff.1 hp)).1
  rw [←Nat.pow_succ] at h1
  refine (o_14p h1 (by omega)).le ?_
  rw [Nat.mul_comm,←Nat.pow_succ]
  exact Nat.pow_le_pow_right (by decide) (by omega)
 have hgr:∀x∈A,∀y∈B,(∀p∈atQ (mgQ (topC w) k a x.1 y.1),Gr G M (x.2*y.2*p.2))∧(atQ (mgQ (topC w) k a x.1 y.1)).length≤17:=fun x hx y hy=>by
  refine ⟨fun p hp=>?_,Nat.le_trans (o_zw _) (Nat.le_trans (o_11h (mg_uq _ _) (mg_ok h (okA x hx).1 (okB y hy).1)) (by omega))⟩
  rw [hGe,hMe]
  exact ((gA x hx).mul (gB y hy)).mul (mgm x hx y hy p hp)
 have hgo:=o_11v (mg:=mgQ (topC w) k a) (L:=17) lB hgr A.length (Nat.le_refl _)
 rw [o_11t] at hgo
 have e81:A.length*(17*17)*M≤4913*M:=Nat.mul_le_mul_right M (by omega)
 have hout:∀p∈mrgG (mgQ (topC w) k a) A B,Gr G (4913*M) p.2:=fun p hp=>(hgo p hp).le e81
 have sz1:size (100000*M*G)≤1000:=by
  have:=o_sk (100000*M) G;have:=o_sk 100000 M
  have:size 100000≤1:=o_md (by decide)
  omega
 have hu:Uq (mrgG (mgQ (topC w) k a) A B):=o_146 A B
 have hone:exQ (fun _=>1) (mrgG (mgQ (topC w) k a) A B)=1:=o_148 oA oB fun x _ y _=>o_11i _ _
 have hokO:oklQ (topC w) (mrgG (mgQ (topC w) k a) A B):=fun p hp =>
  ⟨o_149 (R:=okQ (topC w)) (fun x hx y hy=>fun q hq=>(mg_ok h (okA x hx).1 (okB y hy).1 q hq).1) p hp,(hout p hp).nn Gp⟩
 have lO:=o_11h hu hokO
 have rsX:∀{D C:Nat} {q:Rat},0<D→1≤C→size D≤20→size C≤20→Gr D C q→RS q 40000:=fun {D C q} h1 h2 h3 h4 h5=>h5.rs h1 h2 (by have:=o_sk C D;omega)
 refine ⟨G,M,⟨Gp,Mp,by omega,by omega,by omega,qq A oA,by omega,qq B oB,lB,by omega,fun x hx=>⟨(okA x hx).2,rsX dA cA zA yA (gA x hx)⟩,fun y hy=>⟨(okB y hy).2,rsX dB cB zB yB (gB y hy)⟩,hgr,fun x hx y hy p hp=>?_,?_,?_,fun x hx y hy=>⟨o_11a h x.1 y.1 (okA x hx).1 (okB y hy).1.1 (by have:=(okB y hy).1.1;omega),o_11l h (by have:=(okB y hy).1.1;omega) (okA x hx).1 (okB y hy).1⟩,?_⟩,Gp,Mp,Gs,Ms,hout,hokO⟩
 ·refine (mgm x hx y hy p hp).rs (Nat.pow_pos hG) (Nat.pow_pos (by decide)) ?_
  have:=o_sk (80^16) (G0^16);have:=pG 16;have:=p24 16;omega
 ·refine Nat.le_trans (o_lw ?_) (Nat.le_trans sz1 (by omega))
  refine Nat.mul_le_mul_right G (Nat.mul_le_mul_right M ?_)
  omega
 ·have hl:((A++B).map (·.1)).length=A.length+B.length:=by simp
  have:=o_119 (.inr ⟨by have:=h.1;omega,o_tw h⟩) (by have:=h.1;omega) h.2.2 ((A++B).map (·.1)) (by omega) (fun s hs=>?_)
  ·rwa [hl] at this
  ·obtain ⟨p,hp,rfl⟩:=List.mem_map.1 hs
   rcases List.mem_append.1 hp with hp | hp
   ·exact wellQ h (okA p hp).1
   ·exact wellQ h (okB p hp).1
 ·refine o_ze _ hu (o_11j hone) (Nat.le_trans lO (by omega)) fun p hp=>?_
  refine (hout p hp).rs Gp (Nat.mul_pos (by decide) Mp) (Nat.le_trans (o_lw ?_) (Nat.le_trans sz1 (by omega)))
  exact Nat.mul_le_mul_right G (Nat.mul_le_mul_right M (by omega))
theorem o_14r {A B:Nat} (h:ThS A B) (h4:(A+1)*(B+1)≤128) (l:List St) (hl:l.length≤1000000) (hw:∀s∈l,okT A B s):Eqn Tryz.prog o_ap [.d (parD 4 A B),.d (.sl l.length (stsD l))] [] (.d (.int .i64 0)) []:=by
 refine Eqn.pure o_ar Plain.ok ?_
 have h1:=o_118 h.good l hl fun s hs=>o_13g (hw s hs)
 have h2:=o_13f h
 generalize (A+1)*(B+1)=W at *
 have e1:IntKind.i64.wrap (4*(W:Int))=4*(W:Int):=w64 (by omega) (by omega)
 have e2:¬512<4*(W:Int):=by omega
 refine cc (c':=?z237) ?_ ?_
 case refine_1=>cbv<;>exact rfl
 try simp only [parD] at h1 h2 ⊢
 refine A00 ?_;try with_reducible exact tt
 refine CallS.pu (h1) (R0 ?_);try with_reducible exact tt
 refine A00 ?_;try with_reducible exact tt
 refine CallS.pu (h2) (R1 (fs e1 e2) ?_);try with_reducible exact tt
 refine A10 (fs e1 e2) ?_;try with_reducible exact tt
theorem o_14s {A B:Nat} (h1:1≤A) (h2:A≤8) (h3:B≤3) {LA LB:Sp} {e f:Nat} (hA:SpOK e (okT A B) LA) (hB:SpOK f (okT A B) LB) (he:e≤1000) (hf:f≤1000) :
  MrgOK 4 A B (mgT A B) LA LB (2^(e+f+100)) 1 72 72∧SpOK (e+f+100) (okT A B) (mrgG (mgT A B) LA LB):=by
 have hS:=o_13k h1 h2 h3
 have hJ:(A+1)*((B+1)*2)≤9*(4*2):=Nat.mul_le_mul (by omega) (Nat.mul_le_mul_right _ (by omega))
 have lA:=o_13b hA.uq hA.ky
 have lB:=o_13b hB.uq hB.ky
 have qq:∀L:Sp,exQ (fun _=>1) L=1→1≤L.length:=fun L hL=>by
  rcases L with _ | ⟨p,L⟩
  ·exact absurd hL (by decide)
  ·simp
 have hmg:∀x∈LA,∀y∈LB,SpOK 100 (okT A B) (mgT A B x.1 y.1):=fun x hx y hy=>by
  refine (SpOK.mgT (hA.ky x hx) (hB.ky y hy)).mono ?_ fun _ h=>h
  have a1:B*A≤3*8:=Nat.mul_le_mul h3 h2
  have a2:(A+A)*B≤16*3:=Nat.mul_le_mul (by omega) h3
  omega
 have hgr:∀x∈LA,∀y∈LB,(∀p∈atQ (mgT A B x.1 y.1),Gr (2^(e+f+100)) 1 (x.2*y.2*p.2))∧(atQ (mgT A B x.1 y.1)).length≤72:=fun x hx y hy=>by
  have hm:=hmg x hx y hy
  refine ⟨fun p hp=>?_,Nat.le_trans (o_zw _) (Nat.le_trans (o_13b hm.uq hm.ky) hJ)⟩
  have:=((hA.gr x hx).mul (hB.gr y hy)).mul (hm.at.gr p hp)
  rwa [←Nat.pow_add,←Nat.pow_add] at this
 have hout:SpOK (e+f+100) (okT A B) (mrgG (mgT A B) LA LB):=by
  refine ⟨o_146 _ _,o_148 hA.one hB.one fun x hx y hy=>(hmg x hx y hy).one,?_,o_149 fun x hx y hy=>(hmg x hx y hy).ky⟩
  have hgi:∀x∈LA,∀y∈LB,∀p∈atQ (mgT A B x.1 y.1),Gi 100 p.2:=fun x hx y hy=>(hmg x hx y hy).at.gi
  have k1:∀x∈LA,∀(j:Nat) (out:Sp),j≤LB.length→(∀p∈out,Gi (e+f+100) p.2)→∀p∈inG (mgT A B) x LB out j,Gi (e+f+100) p.2:=by
   intro x hx j
   induction j with
   | zero=>intro out _ h p hp;exact h p (by simpa [inG] using hp)
   | succ j ih =>
    intro out hj h
    rw [o_11q _ x LB out j (by omega)]
    exact o_12g ((hA.gi x hx).mul (hB.gi _ (List.getElem_mem _))) (ih out (by omega) h) (hgi x hx _ (List.getElem_mem _))
  have k2:∀i,i≤LA.length→∀p∈outG (mgT A B) LA LB i,Gi (e+f+100) p.2:=by
   intro i
   induction i with
   | zero=>intro _ p hp;simp [outG] at hp
   | succ i ih =>
    intro hi
    rw [o_11s _ LA LB i hi]
    exact k1 _ (List.getElem_mem _) _ _ (Nat.le_refl _) (ih (by omega))
  rw [←o_11t]
  exact k2 _ (Nat.le_refl _)
 have lO:=o_13b hout.uq hout.ky
 have hr:∀{L:Sp} {g:Nat},SpOK g (okT A B) L→g≤1000→∀p∈L,0≤p.2∧RS p.2 40000:=fun {L g} hL hg p hp=>⟨hL.nn p hp,(hL.gr p hp).rs (Nat.two_pow_pos _) (Nat.le_refl _) (by rw [Nat.one_mul];have:=o_133 g;omega)⟩
 refine ⟨⟨Nat.two_pow_pos _,by omega,by omega,by omega,by omega,qq LA hA.one,by omega,qq LB hB.one,by omega,by omega,hr hA he,hr hB hf,hgr,fun x hx y hy=>(hmg x hx y hy).at.rs (by omega),?_,?_,fun x hx y hy=>?_,?_⟩,hout⟩
 ·have a1:=o_sk ((LA.length+2)*(72*72)*1) (2^(e+f+100))
  have a2:=o_133 (e+f+100)
  have a3:(LA.length+2)*(72*72)*1≤74*(72*72):=by rw [Nat.mul_one];exact Nat.mul_le_mul_right _ (by omega)
  have a4:size ((LA.length+2)*(72*72)*1)≤1:=o_md (by omega)
  omega
 ·have hl:((LA++LB).map (·.1)).length=LA.length+LB.length:=by simp
  have:=o_14r hS (Nat.le_trans (Nat.mul_le_mul (show A+1≤9 by omega) (show B+1≤4 by omega)) (by omega)) ((LA++LB).map (·.1)) (by omega) (fun s hs=>?_)
  ·rwa [hl] at this
  ·obtain ⟨p,hp,rfl⟩:=List.mem_map.1 hs
   rcases List.mem_append.1 hp with hp | hp
   ·exact hA.ky p hp
   ·exact hB.ky p hp
 ·have hm:=hmg x hx y hy
  exact ⟨o_14o hS x.1 y.1 (hA.ky x hx) (hB.ky y hy),o_ze _ hm.uq hm.nz (Nat.le_trans (o_13b hm.uq hm.ky) (by omega)) (hm.rs (by omega))⟩
 ·exact o_ze _ hout.uq hout.nz (by omega) (hout.rs (by omega))
end
section
open Go.RowKit
end
section
open Go.RowKit
end
section
open Go.RowKit
theorem mgR_c {K:Nat} (hk:K≠4) (A B:Nat):mgR K A B=mgQ (topC B) K A:=by
 funext s o
 unfold mgR
 rw [if_neg hk]
theorem o_14t {K A B:Nat} (hsr:SmallR K A B) {s o:St} (hs:WellR K A B s.1 s.2.1 s.2.2) (ho:WellR K A B o.1 o.2.1 o.2.2) (n m:Nat) (hn:n≤3) (hm:m≤3):SmOK K A B (mrgG (mgR K A B) (atQ (smQ K A B s n)) (atQ (smQ K A B o m)))∧(∀p∈atQ (smQ K A B s n),WellR K A B p.1.1 p.1.2.1 p.1.2.2)∧(∀p∈atQ (smQ K A B o m),WellR K A B p.1.1 p.1.2.1 p.1.2.2) ∧
  Eqn Tryz.prog o_8g [.d (parD K A B),.d (.sl (atQ (smQ K A B s n)).length (spD rcD (atQ (smQ K A B s n)))),.d (.sl (atQ (smQ K A B o m)).length (spD rcD (atQ (smQ K A B o m))))] [] (.tup [.d (.sl (atQ (mrgG (mgR K A B) (atQ (smQ K A B s n)) (atQ (smQ K A B o m)))).length (spD rcD (atQ (mrgG (mgR K A B) (atQ (smQ K A B s n)) (atQ (smQ K A B o m)))))),.d (.int .i64 0)]) []:=by
 rcases hsr with ⟨rfl,h1,h2,h3⟩ | ⟨hk,hG⟩
 ·rcases hs with ⟨-,hs⟩ | ⟨h,-⟩
  rotate_left
  ·exact absurd rfl h
  rcases ho with ⟨-,ho⟩ | ⟨h,-⟩
  rotate_left
  ·exact absurd rfl h
  replace hs:okT A B s:=hs
  replace ho:okT A B o:=ho
  have hst:∀{s},okT A B s→∀i,SpOK (i*(B+(A+1)*B)) (okT A B) (dstT A B s i):=fun hs i=>SpOK.of (fun t (ht:okT A B t)=>SpOK.stepT ht) hs i
  have he:∀i,i≤3→i*(B+(A+1)*B)≤90:=fun i hi=>Nat.le_trans (Nat.mul_le_mul hi (Nat.add_le_add h3 (Nat.mul_le_mul (show A+1≤9 by omega) h3))) (by decide)
  have eN:=he n hn
  have eM:=he m hm
  obtain ⟨hmo,hout⟩:=o_14s h1 h2 h3 (hst hs n).at (hst ho m).at (by omega) (by omega)
  have hls:=o_13m h1 h2 h3 hout (by omega)
  exact ⟨⟨hout.uq,hout.one,hout.nn,_,_,_,_,hls⟩,fun p hp=>o_13g ((hst hs n).at.ky p hp),fun p hp=>o_13g ((hst ho m).at.ky p hp),o_11y hmo⟩
 ·rcases hs with ⟨h,-⟩ | ⟨-,k1,k2,k3⟩
  ·exact absurd h hk
  rcases ho with ⟨h,-⟩ | ⟨-,l1,l2,l3⟩
  ·exact absurd h hk
  replace hs:okQ (topC B) s:=⟨k2,k1,k3⟩
  replace ho:okQ (topC B) o:=⟨l2,l1,l3⟩
  have h8:2^B≤16:=Nat.pow_le_pow_right (n:=2) (by omega) hG.2.2
  have h7:topC B≤15:=by unfold topC;omega
  obtain ⟨c0,c1⟩:=o_10c hG
  obtain ⟨G0,hGp,hG63,hc⟩:=o_zm hG
  have sG:size G0≤1:=o_md (Nat.lt_of_le_of_lt hG63 (by decide))
  have pG:=fun n=>o_10a G0 sG n
  have p80:=fun n=>o_10a 80 (o_md (by decide)) n
  have ok:=fun {s} (hs:okQ (topC B) s) i=>o_w5 (o_w9 (c:=chP K A) c0 c1 hs i)
  have gr:=fun {s} (hs:okQ (topC B) s) i=>fun p (hp:p∈atQ (dstQ K A B s i))=>o_11d h7 c0 c1 (fun x hx=>hc x (by omega)) hs i p (List.mem_filter.1 ((o_vn _).mem_iff.1 hp)).1
  have on:∀s i,exQ (fun _=>1) (atQ (dstQ K A B s i))=1:=fun s i=>by rw [o_vo];exact o_wa _ _
  obtain ⟨G,M,hmo,Gp,Mp,Gs,Ms,hout,hok⟩:=o_14q hG (ok hs n) (ok ho m) (o_vq (o_vz _ _ n)) (o_vq (o_vz _ _ m)) (on s n) (on o m) (Nat.pow_pos hGp) (Nat.pow_pos (by decide)) (Nat.pow_pos hGp) (Nat.pow_pos (by decide)) (by have:=pG n;omega) (by have:=p80 n;omega) (by have:=pG m;omega) (by have:=p80 m;omega) (gr hs n) (gr ho m)
  have hone:exQ (fun _=>1) (mrgG (mgQ (topC B) K A) (atQ (dstQ K A B s n)) (atQ (dstQ K A B o m)))=1:=o_148 (on s n) (on o m) fun x _ y _=>o_11i _ _
  have hu:=o_146 (mg:=mgQ (topC B) K A) (atQ (dstQ K A B s n)) (atQ (dstQ K A B o m))
  have hl:=o_11h hu hok
  have hV:vlQ K A B=plQ (valC K A):=funext fun s=>by
   unfold vlQ valR plQ
   rw [if_neg hk]
  have hvg:∀x,x≤topC B→Gr (12^15) (2^24) (valC K A x):=fun x hx=>o_12z hG x (by omega)
  have hls:LsOK K A B (atQ (mrgG (mgQ (topC B) K A) (atQ (dstQ K A B s n)) (atQ (dstQ K A B o m)))) G (4913*M) (12^15) (2^24):=by
   have ok2:=o_w5 hok
   refine ⟨Nat.le_trans (o_zw _) (by omega),by rw [o_vo];exact hone,Gp,Nat.mul_pos (by decide) Mp,by decide,by decide,by omega,?_,Nat.le_trans (o_md (by decide)) (by decide),Nat.le_trans (o_md (by decide)) (by decide),fun p hp=>wellQ hG (ok2 p hp).1,fun p hp=>hout p (List.mem_filter.1 ((o_vn _).mem_iff.1 hp)).1,fun p hp=>?_⟩
   ·have a1:=o_sk 4913 M
    have a2:size 4913≤1:=o_md (by decide)
    omega
   ·rw [hV];exact hvg _ (ok2 p hp).1.1
  have e1:∀s i,smQ K A B s i=dstQ K A B s i:=fun s i=>by unfold smQ;rw [if_neg hk]
  rw [e1,e1,mgR_c hk]
  exact ⟨⟨hu,hone,fun p hp=>(hok p hp).2,_,_,_,_,hls⟩,fun p hp=>wellQ hG (ok hs n p hp).1,fun p hp=>wellQ hG (ok ho m p hp).1,o_11y hmo⟩
end
section
open Go.RowKit
end
section
open Go.RowKit
def totN:Wm→Nat
 | []=>0
 | p::l=>p.2+totN l
theorem o_14u (s:St) (v:Nat):∀l:Wm,totN (setN l s v)+getN s l=totN l+v
 | []=>by simp [setN,totN,getN]
 | p::l=>by
  unfold setN getN
  split
  ·simp only [totN];omega
  ·have:=o_14u s v l
   simp only [totN];omega
theorem o_14v (s:St) (w:Nat) (l:Wm):totN (addN l s w)=totN l+w:=by
 have:=o_14u s (getN s l+w) l
 unfold addN;omega
def UqN (l:Wm):Prop:=(l.map (·.1)).Nodup
theorem o_14w (s:St) (v:Nat):∀l:Wm,UqN l→UqN (setN l s v)
 | [],_=>by simp [UqN,setN]
 | p::l,h=>by
  unfold UqN at h ⊢
  rw [List.map_cons,List.nodup_cons] at h
  unfold setN
  split
  ·rename_i e
   rw [List.map_cons,List.nodup_cons]
   exact ⟨by simp only [e];exact h.1,h.2⟩
  ·rename_i e
   rw [List.map_cons,List.nodup_cons]
   refine ⟨fun hin=>?_,o_14w s v l h.2⟩
   obtain ⟨q,h1,h2⟩:=List.mem_map.1 hin
   rcases o_13o s v l q h1 with h3 | ⟨r,h3,h4⟩
   ·exact e (by rw [←h3,h2])
   ·exact h.1 (List.mem_map.2 ⟨r,h3,by rw [h4,h2]⟩)
theorem o_14x {ask:List Bool→St×Int}:∀(d:Nat) (pre:List Bool) (X:Wm×Nat),UqN X.1→UqN (walkN ask d pre X).1∧totN (walkN ask d pre X).1+(walkN ask d pre X).2=totN X.1+X.2+2^d
 | 0,pre,(L,op),h=>by
  unfold walkN
  split
  ·exact ⟨o_14w _ _ _ h,by simp only [o_14v];omega⟩
  ·exact ⟨h,by simp only;omega⟩
 | d+1,pre,(L,op),h=>by
  have e2:2^(d+1)=2^d+2^d:=by rw [Nat.pow_succ];omega
  unfold walkN
  split
  ·obtain ⟨h1,h2⟩:=o_14x (ask:=ask) d (pre++[false]) (L,op) h
   obtain ⟨h3,h4⟩:=o_14x (ask:=ask) d (pre++[true]) _ h1
   exact ⟨h3,by simp only at h2 ⊢;omega⟩
  ·split
   ·exact ⟨o_14w _ _ _ h,by simp only [o_14v];omega⟩
   ·exact ⟨h,by simp only;omega⟩
def wsum (X:Wm) (L:Sp) (i:Nat):Nat:=(L.take i).foldl (fun x p=>x+getN p.1 X) 0
theorem o_14y (X:Wm) (L:Sp) (i:Nat) (h:i<L.length):wsum X L (i+1)=wsum X L i+getN L[i].1 X:=by
 unfold wsum;rw [List.take_add_one,List.getElem?_eq_getElem h,Option.toList,List.foldl_append];rfl
def lsum (X:Wm):Sp→Nat
 | []=>0
 | p::l=>getN p.1 X+lsum X l
theorem o_14z (X:Wm) (L:Sp):wsum X L L.length=lsum X L:=by
 have key:∀(L:Sp) (x:Nat),L.foldl (fun x p=>x+getN p.1 X) x=x+lsum X L:=by
  intro L
  induction L with
  | nil=>intro x;rfl
  | cons p L ih=>intro x;rw [List.foldl_cons,ih];simp only [lsum];omega
 unfold wsum
 rw [List.take_length,key,Nat.zero_add]
theorem o_150 (s:St):∀l:Wm,(∀p∈l,p.1≠s)→getN s l=0
 | [],_=>rfl
 | p::l,h=>by
  unfold getN
  rw [if_neg fun e=>h p List.mem_cons_self e.symm]
  exact o_150 s l fun q hq=>h q (List.mem_cons_of_mem _ hq)
theorem o_151 (q:St×Nat) (r:Wm) (hq:∀p∈r,p.1≠q.1):∀L:Sp,Uq L→lsum (q::r) L=lsum r L+(if ∃p∈L,p.1=q.1 then q.2 else 0)
 | [],_=>by simp [lsum]
 | p::L,hu=>by
  unfold Uq at hu
  rw [List.map_cons,List.nodup_cons] at hu
  have ih:=o_151 q r hq L hu.2
  by_cases e:p.1=q.1
  ·have hn:¬∃t∈L,t.1=q.1:=fun ⟨t,h1,h2⟩=>hu.1 (List.mem_map.2 ⟨t,h1,by rw [h2,e]⟩)
   rw [if_neg hn] at ih
   rw [if_pos ⟨p,List.mem_cons_self,e⟩]
   have h0:=o_150 q.1 r hq
   simp only [lsum]
   rw [ih,getN,if_pos e,e,h0]
   omega
  ·have hiff:(∃t∈p::L,t.1=q.1)↔∃t∈L,t.1=q.1:=by
    constructor
    ·rintro ⟨t,h1,h2⟩
     rcases List.mem_cons.1 h1 with rfl | h1
     ·exact absurd h2 e
     ·exact ⟨t,h1,h2⟩
    ·rintro ⟨t,h1,h2⟩
     exact ⟨t,List.mem_cons_of_mem _ h1,h2⟩
   simp only [lsum,hiff]
   rw [ih,getN,if_neg e]
   omega
theorem o_152:∀(X:Wm) (L:Sp),UqN X→Uq L→(∀q∈X,∃p∈L,p.1=q.1)→lsum X L=totN X
 | [],L,_,_,_=>by
  have key:∀L:Sp,lsum [] L=0:=fun L=>by
   induction L with
   | nil=>rfl
   | cons p L ih=>simp only [lsum,getN,Nat.zero_add];exact ih
  exact key L
 | q::r,L,hX,hL,h=>by
  unfold UqN at hX
  rw [List.map_cons,List.nodup_cons] at hX
  rw [o_151 q r (fun p hp e=>hX.1 (List.mem_map.2 ⟨p,hp,e⟩)) L hL,if_pos (h q List.mem_cons_self),o_152 r L hX.2 hL fun t ht=>h t (List.mem_cons_of_mem _ ht)]
  simp only [totN];omega
theorem lsum_walk {ask:List Bool→St×Int} {Q:Sp} (hu:Uq Q) (hl:LawOK (walkN ask 11 [] ([],0)).1 (walkN ask 11 [] ([],0)).2 Q):lsum (walkN ask 11 [] ([],0)).1 (atQ Q)+(walkN ask 11 [] ([],0)).2=2048:=by
 obtain ⟨h1,h2⟩:=o_14x (ask:=ask) 11 [] ([],0) (by simp [UqN])
 obtain ⟨h3,-⟩:=o_13r (ask:=ask) 11 [] ([],0) (fun p hp=>nomatch hp)
 rw [o_152 _ _ h1 (o_vq hu) fun q hq=>?_,h2]
 ·rfl
 ·have hp:=h3 q hq
  have hle:=(hl q.1).1
  have hne:getQ (atQ Q) q.1≠0:=by
   rw [o_vu q.1 hu]
   intro e
   rw [e,Rat.mul_zero] at hle
   have:(0:Rat)<(getN q.1 (walkN ask 11 [] ([],0)).1:Rat):=by
    have:((0:Nat):Rat)<(getN q.1 (walkN ask 11 [] ([],0)).1:Rat):=Rat.natCast_lt_natCast.2 hp
    simpa using this
   exact absurd hle (Rat.not_le.2 this)
  exact ⟨_,o_12w hne,rfl⟩
def tyR (k a b n m:Nat) (cs:List Bool) (p:Nat) (d:Bool):TR :=
 let R:=addRM cs k a b n 0 0 false p d
 if R.e=0 then
  let S:=addRM cs k a b m 0 0 false R.p R.d
  if S.e=0 then mergeRM cs k a b R.y R.t R.f S.y S.t S.f S.p S.d else S
 else R
def rgT (K A B n m:Nat):CP St:=(rgA K A B n (0,0,false)).bind fun a=>(rgA K A B m (0,0,false)).bind fun b=>rgM K A B a b
theorem well0 (K A B:Nat):WellR K A B 0 0 false:=by
 unfold WellR WellT
 by_cases hk:K=4
 ·exact .inl ⟨hk,Nat.zero_le _,Nat.zero_le _,by simp⟩
 ·exact .inr ⟨hk,rfl,Nat.zero_le _,by simp⟩
theorem o_153 {K A B:Nat} (hsr:SmallR K A B) (n m:Nat):Runs (fun cs p d=>trH (tyR K A B n m cs p d)) (rgT K A B n m):=by
 have hz:=well0 K A B
 refine o_wt (o_14c hsr (s:=(0,0,false)) hz n) (G:=fun a cs p d=>trH (if (addRM cs K A B m 0 0 false p d).e=0 then mergeRM cs K A B a.1 a.2.1 a.2.2 (addRM cs K A B m 0 0 false p d).y (addRM cs K A B m 0 0 false p d).t (addRM cs K A B m 0 0 false p d).f (addRM cs K A B m 0 0 false p d).p (addRM cs K A B m 0 0 false p d).d else addRM cs K A B m 0 0 false p d)) (fun a=>?_) (fun cs p hp he=>?_) fun cs p hp he=>?_
 ·refine o_wt (o_14c hsr (s:=(0,0,false)) hz m) (G:=fun b cs p d=>trH (mergeRM cs K A B a.1 a.2.1 a.2.2 b.1 b.2.1 b.2.2 p d)) (fun b=>o_14i hsr a b) (fun cs p hp he=>?_) fun cs p hp he=>?_
  ·replace he:(addRM cs K A B m 0 0 false p false).e=0:=he
   simp only [if_pos he]
   rfl
  ·replace he:(addRM cs K A B m 0 0 false p false).e=8:=he
   rw [if_neg (by rw [he];decide)]
   exact he
 ·replace he:(addRM cs K A B n 0 0 false p false).e=0:=he
  unfold tyR
  simp only [if_pos he]
  rfl
 ·replace he:(addRM cs K A B n 0 0 false p false).e=8:=he
  unfold tyR
  simp only
  rw [if_neg (by rw [he];decide)]
  exact he
theorem rgT_E {K A B:Nat} (hsr:SmallR K A B) (n m:Nat) (hn:n≤3) (hm:m≤3) (g:St→Rat):(rgT K A B n m).E g=exQ g (mrgG (mgR K A B) (atQ (smQ K A B (0,0,false) n)) (atQ (smQ K A B (0,0,false) m))):=by
 have hz:=well0 K A B
 obtain ⟨-,w1,w2,-⟩:=o_14t hsr (s:=(0,0,false)) (o:=(0,0,false)) hz hz n m hn hm
 unfold rgT
 rw [CP.bind_E,rgA_E hsr (s:=(0,0,false)) hz,o_147,←o_vo]
 refine o_12i fun p hp=>?_
 rw [CP.bind_E,rgA_E hsr (s:=(0,0,false)) hz,←o_vo]
 exact o_12i fun q hq=>rgM_E hsr (w1 p hp) (w2 q hq) g
end
section
open Go.RowKit
def askT (k a b n m:Nat) (cs:List Bool):St×Int :=
 let R:=addRM cs k a b n 0 0 false 0 false
 if R.e=0 then
  let S:=addRM cs k a b m 0 0 false R.p R.d
  if S.e=0 then
   let T:=mergeRM cs k a b R.y R.t R.f S.y S.t S.f S.p S.d
   (if T.e=0 then (T.y,T.t,T.f) else (R.y,R.t,R.f),T.e)
  else ((0,0,false),S.e)
 else ((0,0,false),R.e)
theorem keyT {k a b:Nat} (hsr:SmallR k a b) (n m:Nat) (pre:List Bool):match (rgT k a b n m).O pre with
  | some (r,c)=>askT k a b n m pre=(r,0)
  | none=>(askT k a b n m pre).2=8:=by
 have h:=o_153 hsr n m pre 0 (Nat.zero_le _)
 rw [List.drop_zero] at h
 unfold tyR at h
 unfold askT
 simp only at h ⊢
 cases ho:(rgT k a b n m).O pre with
 | none =>
  rw [ho] at h
  simp only at h ⊢
  by_cases h1:(addRM pre k a b n 0 0 false 0 false).e=0
  ·rw [if_pos h1] at h ⊢
   generalize addRM pre k a b n 0 0 false 0 false=R at *
   by_cases h2:(addRM pre k a b m 0 0 false R.p R.d).e=0
   ·rw [if_pos h2] at h ⊢
    exact h
   ·rw [if_neg h2] at h ⊢
    exact h
  ·rw [if_neg h1] at h ⊢
   exact h
 | some rc =>
  obtain ⟨r,c⟩:=rc
  rw [ho] at h
  simp only at h ⊢
  by_cases h1:(addRM pre k a b n 0 0 false 0 false).e=0
  ·rw [if_pos h1] at h ⊢
   generalize addRM pre k a b n 0 0 false 0 false=R at *
   by_cases h2:(addRM pre k a b m 0 0 false R.p R.d).e=0
   ·rw [if_pos h2] at h ⊢
    generalize addRM pre k a b m 0 0 false R.p R.d=S at *
    simp only [trH,Prod.mk.injEq] at h
    obtain ⟨e1,e2,-,-⟩:=h
    rw [if_pos e2]
    exact Prod.ext e1 e2
   ·rw [if_neg h2] at h
    exact absurd (congrArg (fun x=>x.2.1) h) h2
  ·rw [if_neg h1] at h
   exact absurd (congrArg (fun x=>x.2.1) h) h1
theorem o_154 {k a b:Nat} (hsr:SmallR k a b) (n m:Nat) (hn:n≤3) (hm:m≤3):LawOK (walkN (askT k a b n m) 11 [] ([],0)).1 (walkN (askT k a b n m) 11 [] ([],0)).2 (mrgG (mgR k a b) (atQ (smQ k a b (0,0,false) n)) (atQ (smQ k a b (0,0,false) m))) :=
 o_14a (o_146 _ _) (rgT k a b n m) (keyT hsr n m) fun g=>rgT_E hsr n m hn hm g
set_option maxHeartbeats 4000000 in
theorem o_155 {k a b:Nat} (hg:GoodR k a b) (n m:Nat) (hn:n≤100) (hm:m≤100):AskOK o_84 29 3 3 [.int .i64 k,.int .i64 a,.int .i64 b] [.int .i64 n] [.int .i64 m] (askT k a b n m) where
 t6:=by decide
 t7:=by decide
 t8:=by decide
 run:=fun cs hcs=>by
  have hz:=well0 k a b
  obtain ⟨R,hR⟩:∃R,R=addRM cs k a b n 0 0 false 0 false:=⟨_,rfl⟩
  have wR:=o_u4 (cs:=cs) (n:=n) (p:=0) (d:=false) hg hz (Nat.zero_le _) (by omega)
  rw [←hR] at wR
  obtain ⟨S,hS⟩:∃S,S=addRM cs k a b m 0 0 false R.p R.d:=⟨_,rfl⟩
  have wS:=o_u4 (cs:=cs) (n:=m) (p:=R.p) (d:=R.d) hg hz wR.1 (by omega)
  rw [←hS] at wS
  obtain ⟨T,hT⟩:∃T,T=mergeRM cs k a b R.y R.t R.f S.y S.t S.f S.p S.d:=⟨_,rfl⟩
  have e:askT k a b n m cs=if R.e=0 then (if S.e=0 then ((if T.e=0 then (T.y,T.t,T.f) else (R.y,R.t,R.f)),T.e) else ((0,0,false),S.e)) else ((0,0,false),R.e):=by
   unfold askT;rw [hT,hS,hR]
  have a1:=o_ui cs k a b 0 0 false n 0 false hg hz (by omega) (by omega) (by omega) R hR
  have a2:=o_ui cs k a b 0 0 false m R.p R.d hg hz (by omega) wR.1 (by omega) S hS
  have a3:=fun h1 h2=>o_uj cs k a b R.y R.t R.f S.y S.t S.f S.p S.d hg (wR.2 h1) (wS.2 h2) wS.1 (by omega) T hT
  rw [e]
  clear hT hS hR e
  have e0:((0:Nat):Int)=0:=rfl
  obtain ⟨r1,ry,rt,rf,rp,rd⟩:=R
  obtain ⟨s1,sy,st,sf,sp,sd⟩:=S
  obtain ⟨t1,ty,tt',tf,tp,td⟩:=T
  unfold stR tsD at a1 a2 a3
  simp only at a1 a2 a3 wR wS ⊢
  by_cases h1:r1=0
  ·subst h1
   simp only [if_true] at a1 ⊢
   by_cases h2:s1=0
   ·subst h2
    have a3:=a3 rfl rfl
    simp only [if_true] at a2 ⊢
    obtain ⟨Y,U,V,hR1,hR3⟩:∃(Y U:Nat) (V:Bool),(if t1=0 then D.agg [.int .i64 ty,.int .i64 tt',.bool tf] else D.agg [.int .i64 ry,.int .i64 rt,.bool rf])=D.agg [.int .i64 Y,.int .i64 U,.bool V]∧(if t1=0 then ((ty,tt',tf):St) else (ry,rt,rf))=(Y,U,V):=by
     by_cases h3:t1=0
     ·simp only [if_pos h3];exact ⟨_,_,_,rfl,rfl⟩
     ·simp only [if_neg h3];exact ⟨_,_,_,rfl,rfl⟩
    rw [hR1] at a3
    rw [hR3]
    refine ⟨tp,td,?_⟩
    refine Eqn.gen [0,1,2,3] o_86 (by simp) (by simp) (by rfl) (by decide) (by simp [tapeO]) (by simp [tapeO]) ?_
    refine cc (c':=?z238) ?_ ?_
    case refine_1=>cbv<;>exact rfl
    try simp only [parD,stD,e0] at a1 a2 a3 ⊢
    refine A00 ?_;try with_reducible exact tt
    refine CallS.o1 0 (a1) (R0 ?_);try with_reducible exact tt
    refine A00 ?_;try with_reducible exact tt
    refine CallS.o1 0 (a2) (R0 ?_);try with_reducible exact tt
    refine A00 ?_;try with_reducible exact tt
    refine CallS.o1 0 (a3) (R0 ?_);try with_reducible exact tt
   ·simp only [if_neg h2] at a2 ⊢
    refine ⟨sp,sd,?_⟩
    refine Eqn.gen [0,1,2,3] o_86 (by simp) (by simp) (by rfl) (by decide) (by simp [tapeO]) (by simp [tapeO]) ?_
    refine cc (c':=?z239) ?_ ?_
    case refine_1=>cbv<;>exact rfl
    try simp only [parD,stD,e0] at a1 a2 ⊢
    refine A00 ?_;try with_reducible exact tt
    refine CallS.o1 0 (a1) (R0 ?_);try with_reducible exact tt
    refine A00 ?_;try with_reducible exact tt
    refine CallS.o1 0 (a2) (R1 h2 ?_);try with_reducible exact tt
    refine A10 h2 ?_;try with_reducible exact tt
  ·simp only [if_neg h1] at a1 ⊢
   refine ⟨rp,rd,?_⟩
   refine Eqn.gen [0,1,2,3] o_86 (by simp) (by simp) (by rfl) (by decide) (by simp [tapeO]) (by simp [tapeO]) ?_
   refine cc (c':=?z240) ?_ ?_
   case refine_1=>cbv<;>exact rfl
   try simp only [parD,stD,e0] at a1 ⊢
   refine A00 ?_;try with_reducible exact tt
   refine CallS.o1 0 (a1) (R1 h1 ?_);try with_reducible exact tt
   refine A10 h1 ?_;try with_reducible exact tt
end
section
open Go.RowKit
set_option maxHeartbeats 8000000 in
theorem o_156 (k a b n0 n1:Int):Eqn Tryz.prog o_7s [.d (parD k a b),.d (.agg [.int .i64 n0,.int .i64 n1])] [] (.d (.bool true)) []:=by
 refine Eqn.pure o_7u Plain.ok ?_
 obtain ⟨K,A,B,hsr,hsm⟩:=o_uo k a b
 obtain ⟨Y,T,F,hw,hs1⟩:=hsm 0 0 false
 obtain ⟨N0,hN0,hN1,-⟩:=o_q0 n0 1 (by omega)
 replace hN0:bits BinOp.and IntKind.i64 n0 1=N0:=hN0
 obtain ⟨M0,hM0,hM1,-⟩:=o_q0 n1 1 (by omega)
 replace hM0:bits BinOp.and IntKind.i64 n1 1=M0:=hM0
 obtain ⟨N,hN⟩:∃N,N=N0+1:=⟨_,rfl⟩
 obtain ⟨M,hM⟩:∃M,M=M0+1:=⟨_,rfl⟩
 have ewN:IntKind.i64.wrap ((N0:Int)+1)=(N:Int):=by rw [w64 (by omega) (by omega)];omega
 have ewM:IntKind.i64.wrap ((M0:Int)+1)=(M:Int):=by rw [w64 (by omega) (by omega)];omega
 have eN:(N:Int)=(N0:Int)+1:=by omega
 have eM:(M:Int)=(M0:Int)+1:=by omega
 have hN3:N≤3:=by omega
 have hM3:M≤3:=by omega
 have hwn:=o_ul K A B
 have hz:=well0 K A B
 obtain ⟨hS,-,-,hmd⟩:=o_14t hsr (s:=(0,0,false)) (o:=(0,0,false)) hz hz N M hN3 hM3
 obtain ⟨-,hofA⟩:=sm_ok hsr hz N (by omega)
 obtain ⟨-,hofB⟩:=sm_ok hsr hz M (by omega)
 have hwt:=o_zk (o_155 (o_uk hsr) N M (by omega) (by omega))
 have hlaw:=o_154 hsr N M hN3 hM3
 have hsum:=lsum_walk hS.uq hlaw
 obtain ⟨hop,hgl⟩:=o_y6 (ask:=askT K A B N M) 11 [] ([],0)
 obtain ⟨Dn,Cn,En,Vn,hls⟩:=hS.ls
 have hrs:=hls.rs
 have hLn:=hls.len
 have hps:=hls.rsum
 have hone:=hls.one
 have huq:=o_vq hS.uq
 have hga:∀s,getQ (atQ (mrgG (mgR K A B) (atQ (smQ K A B (0,0,false) N)) (atQ (smQ K A B (0,0,false) M)))) s=getQ (mrgG (mgR K A B) (atQ (smQ K A B (0,0,false) N)) (atQ (smQ K A B (0,0,false) M))) s:=fun s=>o_vu s hS.uq
 clear hls
 generalize walkN (askT K A B N M) 11 [] ([],0)=X at *
 generalize mrgG (mgR K A B) (atQ (smQ K A B (0,0,false) N)) (atQ (smQ K A B (0,0,false) M))=Q at *
 generalize atQ (smQ K A B (0,0,false) N)=LA at *
 generalize atQ (smQ K A B (0,0,false) M)=LB at *
 obtain ⟨X,op⟩:=X
 simp only at hop hgl hlaw hsum hwt
 have hlo:∀p∈atQ Q,mkRat (getN p.1 X) 2048≤p.2∧p.2≤mkRat ((getN p.1 X+op:Nat):Int) 2048:=fun p hp=>by
  have e:p.2=getQ Q p.1:=by
   rw [←hga]
   exact (o_12v huq p hp).symm
  obtain ⟨h1,h2⟩:=hlaw p.1
  rw [←e] at h1 h2
  rw [o_13n,o_13n]
  constructor
  ·grind
  ·grind
 have hl1:1≤(atQ Q).length:=by
  rcases hq:atQ Q with _ | ⟨p,l⟩
  ·rw [hq] at hone;exact absurd hone (by decide)
  ·simp
 rw [←o_14z] at hsum
 have hpone:psum (atQ Q) (atQ Q).length=1:=by rw [o_11m];exact hone
 have h11:(2:Nat)^11=2048:=rfl
 rw [h11] at hop hgl
 clear hga hlaw hone huq hS
 generalize atQ Q=L at *
 have hLl:=o_v5 rcD (fun _=>rfl) L
 have hgetA:=o_zy L
 have ho:=rof0
 have ho1:=rof1
 have hl0:¬(L.length:Int)=0:=by omega
 have hl2:¬L.length=0:=by omega
 have hps0:psum L 0=0:=rfl
 have hws0:wsum X L 0=0:=rfl
 rw [eN] at hofA
 rw [eM] at hofB
 rw [eN,eM] at hwt
 refine cc (c':=?z241) ?_ ?_
 case refine_1=>cbv<;>exact rfl
 try simp only [parD,tsD,stD,wtO] at hs1 hwn hofA hofB hmd hwt ⊢
 rw [o_x5] at ho ho1
 refine A00 ?_;try with_reducible exact tt
 refine CallS.pu (hs1) (R0 ?_);try with_reducible exact tt
 refine A00 ?_;try with_reducible exact tt
 refine CallS.pu (hwn) (R1 (fs hN0 hM0) ?_);try with_reducible exact tt
 refine A10 (fs hN0 hM0) ?_;try with_reducible exact tt
 refine CallS.g [4,5,6] (hwt) (R0 ?_);try with_reducible exact tt
 refine A00 ?_;try with_reducible exact tt
 refine CallS.pu (hofA) (R0 ?_);try with_reducible exact tt
 refine A00 ?_;try with_reducible exact tt
 refine CallS.pu (hofB) (R0 ?_);try with_reducible exact tt
 refine A00 ?_;try with_reducible exact tt
 refine CallS.pu (hmd) (R1 (fs hl0 hl2) ?_);try with_reducible exact tt
 refine A10 (fs hl0 hl2) ?_;try with_reducible exact tt
 refine CallS.pu (ho) (R0 ?_);try with_reducible exact tt
 refine A00 ?_;try with_reducible exact tt
 have hz0:rcD (0:Rat)=[natW 0,.bool false,natW 0]:=rfl
 refine AW.loopG (α:=Nat) (fun i=>setS (List.replicate 141 .junk) [(10,.mp 7),(11,.d (.int .i64 op)),(18,.p 8 0),(19,.d (.int .i64 (wsum X L i:Nat))),(84,.d (.sl L.length (spD rcD L))),(85,.d (.int .i64 L.length)),(86,.d (.int .i64 (i:Nat)))]) (fun i=>[none,none,none,none,none,none,none,some ⟨1000386,(spN X).map .d⟩,some ⟨51,(rcD (psum L i)).map .d⟩]) (fun i=>i≤L.length) (fun i=>L.length-i) 0 ?_ (Nat.zero_le _) ?_ ?_ ?_
 ·intro i hi;simp
 ·simp [hws0]
 ·rw [hps0,hz0];simp
 rintro i hi
 have hgp:∀q,∃u v z,rcD q=[u,v,z]:=fun q=>⟨_,_,_,rfl⟩
 obtain ⟨P1,P2,P3,hP⟩:=hgp (psum L i)
 rw [hP]
 simp
 by_cases hi2:i<L.length
 ·have hi3:(i:Int)<L.length:=by omega
  have ew:IntKind.i64.wrap ((i:Int)+1)=((i+1:Nat):Int):=by rw [w64 (by omega) (by omega)];omega
  obtain ⟨s1,s2,s3,q,N1,N2,N3,hp,hN',hgA⟩:=hgetA i hi2
  have hri:=hrs _ (List.getElem_mem hi2)
  have hl2:=hlo _ (List.getElem_mem hi2)
  have pn:=o_11b L i hi2
  have wn:=o_14y X L i hi2
  rw [hp] at hri hl2 pn wn
  simp only at hri hl2 pn wn
  obtain ⟨g,hgg⟩:∃g,g=getN (s1,s2,s3) X:=⟨_,rfl⟩
  have hgb:=hgl (s1,s2,s3)
  have hml:=o_xy (s1,s2,s3) X
  rw [←hgg] at hgb hml hl2 wn
  have hgb:g≤2048:=by simpa [getN] using hgb
  simp only [stD] at hml
  have hwb:wsum X L (i+1)≤1000000000:=by
   have key:∀j,j≤L.length→wsum X L j≤2048*j:=by
    intro j
    induction j with
    | zero=>intro _;exact Nat.le_refl 0
    | succ j ih =>
     intro hj
     have h1:=ih (by omega)
     have h2:=hgl (L[j]'(by omega)).1
     have h3:getN (L[j]'(by omega)).1 X≤2048:=by simpa [getN] using h2
     rw [o_14y X L j (by omega)]
     omega
   have:=key (i+1) (by omega)
   omega
  obtain ⟨gp,hgpd⟩:∃gp,gp=g+op:=⟨_,rfl⟩
  rw [←hgpd] at hl2
  have ea:IntKind.i64.wrap ((g:Int)+(op:Int))=(gp:Int):=by rw [w64 (by omega) (by omega)];omega
  have eww:IntKind.i64.wrap ((wsum X L i:Int)+(g:Int))=((wsum X L (i+1):Nat):Int):=by rw [w64 (by omega) (by omega)];omega
  have eaw:(g:Int)+(op:Int)=(gp:Int):=by omega
  have ewx:(wsum X L i:Int)+(g:Int)=((wsum X L (i+1):Nat):Int):=by omega
  have hm1:=o_tb g 2048 (by omega) (by omega) (by omega)
  have hm2:=o_tb gp 2048 (by omega) (by omega) (by omega)
  have r1:RS (mkRat g 2048) 100000:=RS.mk' (by omega) (by rw [Int.natAbs_natCast];exact Nat.le_trans (o_lw (n:=2^62) (by omega)) (by decide)) (by decide)
  have r2:RS (mkRat (gp:Int) 2048) 100000:=RS.mk' (by omega) (by rw [Int.natAbs_natCast];exact Nat.le_trans (o_lw (n:=2^62) (by omega)) (by decide)) (by decide)
  have c1:=o_t1 _ q r1 (hri.le (by omega))
  have c2:=o_t1 q _ (hri.le (by omega)) r2
  have ad:=o_sz (psum L i) q (hps i hi) (hri.le (by omega))
  rw [←pn] at ad
  have n1:=o_11z hl2.1
  have n2:=o_11z hl2.2
  have m1:=Int.not_lt.2 n1
  have m2:=Int.not_lt.2 n2
  have hb6:i*6+6≤L.length*6:=by omega
  have hb7:i*6<L.length*6:=by omega
  have hb8:L.length≤1000000:=by omega
  generalize cmpQ (mkRat g 2048) q=x1 at *
  generalize cmpQ q (mkRat (gp:Int) 2048)=x2 at *
  rw [o_x5] at hm1 hm2 c1 c2 ad
  rw [o_x5] at c1 c2 ad
  rw [o_x5] at ad
  obtain ⟨B1,B2,B3,hB⟩:=hgp (mkRat g 2048)
  obtain ⟨C1,C2,C3,hC⟩:=hgp (mkRat (gp:Int) 2048)
  obtain ⟨S1,S2,S3,hS'⟩:=hgp (psum L (i+1))
  rw [hB] at hm1 c1
  rw [hC] at hm2 c2
  rw [hN'] at c1 c2 ad
  rw [hP,hS'] at ad
  obtain ⟨w2,hw2⟩:∃w2,w2=wsum X L (i+1):=⟨_,rfl⟩
  rw [←hw2] at wn hwb eww ewx
  generalize wsum X L i=w1 at *
  refine A10 (fs hi2 (fs hi3 (fs hLl (fs hgA (fs hb6 (fs hb7 (fs hml ea))))))) ?_;try with_reducible exact tt
  refine CallS.pu (hm1) (R1 (fs hml (fs ea eaw)) ?_);try with_reducible exact tt
  refine A10 (fs hml (fs ea eaw)) ?_;try with_reducible exact tt
  refine CallS.pu (hm2) (R0 ?_);try with_reducible exact tt
  refine A00 ?_;try with_reducible exact tt
  refine CallS.pu (c1) (R1 (fs n1 m1) ?_);try with_reducible exact tt
  refine CallS.pu (c2) (R1 (fs n2 m2) ?_);try with_reducible exact tt
  refine A10 (fs n1 (fs m1 (fs n2 m2))) ?_;try with_reducible exact tt
  refine CallS.pu (ad) (R1 (fs hml (fs ewx ew)) ?_);try with_reducible exact tt
  refine A10 ew ?_;try with_reducible exact tt
  refine ⟨i+1,8,8,⟨by omega,by omega⟩,by omega,by omega,?_,?_⟩
  ·rw [←hw2];simp [swT,swH,sw,Ob.sw,V.ren,V.rens]
  ·rw [hS'];simp [swT,swH,sw,Ob.sw,V.ren,V.rens]
 ·have h2:i=L.length:=by omega
  subst h2
  have c1:=o_t1 1 1 (o_x9.le (by omega)) (o_x9.le (by omega))
  rw [o_te,o_x5] at c1
  rw [hpone] at hP
  rw [hP] at c1 ho1
  have hso:wsum X L L.length+op=2048:=hsum
  have ews:((wsum X L L.length:Nat):Int)+(op:Int)=2048:=by omega
  have ews2:IntKind.i64.wrap (((wsum X L L.length:Nat):Int)+(op:Int))=2048:=by rw [w64 (by omega) (by omega)];omega
  generalize wsum X L L.length=w1 at *
  refine A12 (fs ews ews2) ho1 c1 ?_;try with_reducible exact tt
end
section
open Go.RowKit

theorem tx_walk {W:World} {k a b n0 n1:Int}:Calls Tryz.prog o_7s #[.agg #[.int .i64 k,.int .i64 a,.int .i64 b],.agg #[.int .i64 n0,.int .i64 n1]] W (fun e W'=>e = .returned (.bool true)∧Same W W') :=
 law_walk o_7u (o_156 k a b n0 n1) (V.reps_cons.2 ⟨o_us (by simp [Value.oneCell']) (by simp [D.reps_cons,D.rep_int]),V.reps_cons.2 ⟨o_us (by simp [Value.oneCell']) (by simp [D.reps_cons,D.rep_int]),V.reps_nil.2 rfl⟩⟩)
end
end Go.Proofs.YtidfejfgmlakpaaGreat.Am
