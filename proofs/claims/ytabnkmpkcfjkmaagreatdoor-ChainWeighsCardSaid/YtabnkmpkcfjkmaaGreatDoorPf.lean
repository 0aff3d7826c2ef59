/- Parts of the proof: Pmf9, PmfA, PmfB, PmfK, PmfC, PmfI, PmfJ, Mor3, Mor4, PmfO, PmfP, PmfQ, PmfU, PcA, PmfR, PmfS, PmfT, PmfV, PmfW, PmfY, PmfZ, PmfCa, PmfCb, PmfCc, PmfD, PmfE, PmfF, PmfCd, PcB, TailN, PcC, PcD, PcE, PcF, PmfEb, PcG, WtP, WtQ, WtS, WtT, WtU, WtV, WtM, WtR, WtA, WtB, WtC, PtM, PtN, FalN, TailA, TailB, TailC, TailD, TailE, TailF, TailG, Mor5, TailH, TailI, FalA, PtA, PtB, PtC, PtD, TailJ, TailK, TailM2, TailT, TailO, FalB, WtD, WtE, WtW, WtX, WtY, WtZ, WtJ, WtK, WtL, PtH, WuA, PtE. -/
import Derived.Test.YtabnkmpkcfjkmaaGreatDoorPe
set_option linter.unusedVariables false
set_option linter.unusedSimpArgs false
set_option maxRecDepth 100000
namespace Go.Proofs.YtabnkmpkcfjkmaaGreatDoor.Am
section
open Go.RowKit
theorem o_150 (q:Rat) (out K:Sp) (j:Nat) (h:j<K.length):innQ q out (K.take (j+1))=addQ (innQ q out (K.take j)) K[j].1 (q*K[j].2):=by
 unfold innQ;rw [List.take_add_one,List.getElem?_eq_getElem h,Option.toList,List.foldl_append];rfl
def outQ (next:St→Sp) (A:Sp) (i:Nat):Sp:=(A.take i).foldl (fun out a=>innQ a.2 out (atQ (next a.1))) []
theorem o_151 (next:St→Sp) (A:Sp) (i:Nat) (h:i<A.length):outQ next A (i+1)=innQ A[i].2 (outQ next A i) (atQ (next A[i].1)):=by
 unfold outQ;rw [List.take_add_one,List.getElem?_eq_getElem h,Option.toList,List.foldl_append];rfl
theorem o_152 (next:St→Sp) (l:Sp):outQ next (atQ l) (atQ l).length=timesQ next l:=by unfold outQ timesQ;rw [List.take_length]
theorem o_153 {D B:Nat} {l:Sp} (h:∀p∈l,Gr D B p.2) (s:St):Gr D B (getQ l s):=by
 induction l with
 | nil=>exact Gr.zero D B
 | cons p l ih =>
  unfold getQ
  split
  ·exact h p (by simp)
  ·exact ih fun q hq=>h q (by simp [hq])
theorem o_154 {D B:Nat} {q:Rat} {out:Sp} {C:Nat} (ho:∀p∈out,Gr D C p.2):∀(K:Sp),(∀p∈K,Gr D B (q*p.2))→∀p∈innQ q out K,Gr D (C+K.length*B) p.2:=by
 have key:∀(K out:Sp) (C:Nat),(∀p∈out,Gr D C p.2)→(∀p∈K,Gr D B (q*p.2))→∀p∈innQ q out K,Gr D (C+K.length*B) p.2:=by
  intro K
  induction K with
  | nil=>intro out C ho _ p hp;simpa [innQ] using ho p hp
  | cons b K ih =>
   intro out C ho hK p hp
   have h1:∀p∈addQ out b.1 (q*b.2),Gr D (C+B) p.2:=by
    intro p hp
    rcases o_134 hp with hp | rfl
    ·exact (ho p hp).le (by omega)
    ·exact (o_153 ho _).add (hK b (by simp))
   have:=ih (addQ out b.1 (q*b.2)) (C+B) h1 (fun p hp=>hK p (by simp [hp])) p hp
   refine this.le (Nat.le_of_eq ?_)
   rw [List.length_cons,Nat.add_mul,Nat.one_mul];omega
 exact fun K=>key K out C ho
theorem o_155 {D E B J:Nat} {next:St→Sp} {A:Sp} (hA:∀p∈A,Gr D B p.2) (hN:∀p∈A,(∀r∈next p.1,Gr E 1 r.2)∧(atQ (next p.1)).length≤J):∀i,i≤A.length→∀p∈outQ next A i,Gr (D*E) (i*J*B) p.2
 | 0,_=>fun p hp=>by simp [outQ] at hp
 | i+1,hi=>by
  have hi':i<A.length:=hi
  have ih:=o_155 hA hN i (by omega)
  rw [o_151 next A i hi']
  obtain ⟨h1,h2⟩:=hN A[i] (List.getElem_mem hi')
  have hm:∀p∈atQ (next A[i].1),Gr (D*E) B (A[i].2*p.2):=fun p hp=>by
   have:=(hA A[i] (List.getElem_mem hi')).mul (h1 p (List.mem_filter.1 ((o_12v _).mem_iff.1 hp)).1)
   rwa [Nat.mul_one] at this
  intro p hp
  refine (o_154 ih _ hm p hp).le ?_
  have:=Nat.mul_le_mul_right B h2
  rw [Nat.add_mul i 1 J,Nat.one_mul,Nat.add_mul];omega
theorem nz_ne {top:Nat} {c:Nat→Rat} (s:St):nzQ (stepQ top c s)≠[]:=by
 intro h
 have h1:=(o_133 (fun _=>1) top c s).2
 have h2:exQ (fun _=>(1:Rat)) (stepQ top c s)=1:=by
  rw [h1];split
  ·rfl
  ·grind
 have h3:=ex_nz (fun _=>(1:Rat)) (stepQ top c s)
 rw [show (stepQ top c s).filter (fun p=>decide (p.2≠0))=nzQ (stepQ top c s) from rfl,h] at h3
 rw [h2] at h3
 exact absurd h3 (by decide)
theorem o_156 (l:Sp) (s:St) (q:Rat):(setQ l s q).length≤l.length+1:=by
 induction l with
 | nil=>simp [setQ]
 | cons p l ih=>unfold setQ;split<;>simp<;>omega
theorem o_157 (top:Nat) (c:Nat→Rat) (s:St):(stepQ top c s).length≤2:=by
 unfold stepQ
 split
 ·simp
 ·unfold eitQ addQ
  have:=o_156 (setQ [] (s.1+1,s.2) (getQ [] (s.1+1,s.2)+c s.1)) s (getQ (setQ [] (s.1+1,s.2) (getQ [] (s.1+1,s.2)+c s.1)) s+(1-c s.1))
  have h2:=o_156 [] (s.1+1,s.2) (getQ [] (s.1+1,s.2)+c s.1)
  simp at h2
  omega
theorem o_158 (l:Sp):(atQ l).length≤l.length:=by
 rw [(o_12v l).length_eq];exact List.length_filter_le _ _
theorem o_159 {G top:Nat} {c:Nat→Rat} (hc:∀x,x<top→Gr G 1 (c x)) (s:St) (hs:s.1≤top):∀p∈stepQ top c s,Gr G 1 p.2:=by
 unfold stepQ
 split
 ·intro p hp;simp at hp;subst hp;exact Gr.one G
 ·rename_i e
  have h1:=hc s.1 (by omega)
  have hne:¬s=(s.1+1,s.2):=fun h=>by have:=congrArg Prod.fst h;simp at this
  intro p hp
  unfold eitQ at hp
  rcases o_134 hp with hp | rfl
  ·rcases o_134 hp with hp | rfl
   ·cases hp
   ·have:=(Gr.zero G 0).add h1
    simpa [getQ] using this
  ·have h2:getQ (addQ [] (s.1+1,s.2) (c s.1)) s=0:=by unfold addQ;rw [o_12g,if_neg hne];rfl
   show Gr G 1 (getQ (addQ [] (s.1+1,s.2) (c s.1)) s+(1-c s.1))
   rw [h2]
   have:=(Gr.zero G 0).add h1.sub1
   simpa using this
end
section
open Go.RowKit
def PO (k a w:Nat):Ob:=⟨62,[.d (.int .i64 k),.d (.int .i64 a),.d (.int .i64 w)]⟩
theorem o_15a (A:Sp) (i:Nat) (hi:i<A.length):∃(s1 s2:Nat) (s3:Bool) (q:Rat) (N1 N2 N3:D),A[i]=((s1,s2,s3),q)∧rcD q=[N1,N2,N3]∧((spD rcD A).drop (i*6)).take 6=[.int .i64 s1,.int .i64 s2,.bool s3,N1,N2,N3]:=by
 obtain ⟨⟨⟨s1,s2,s3⟩,q⟩,hp⟩:∃p,A[i]=p:=⟨_,rfl⟩
 have h6:=o_11u (n:=6) (f:=atomC) o_143 A i hi
 rw [hp,←o_144] at h6
 exact ⟨s1,s2,s3,q,_,_,_,hp,rfl,by rw [h6];rfl⟩
end
section
open Go.RowKit
theorem o_15b {k a w:Nat} (h:GoodR k a w) (s:St) (hw:WellR k a w s.1 s.2.1 s.2.2):Eqn Tryz.prog o_ee [.d (.agg (stD s)),.p 0 0] [PO k a w] (.d (.bool false)) [PO k a w]:=by
 refine Eqn.gen [0] o_eg (by simp) (by simp) (by rfl) (by decide) (by simp) (by simp [PO]) ?_
 have hwl:=o_zp h s.1 s.2.1 s.2.2
 rw [o_zo.2 hw] at hwl
 refine cc (c':=?z248) ?_ ?_
 case refine_1=>cbv<;>exact rfl
 try simp only [PO,stD,parD,tsD] at hwl ⊢
 refine A00 ?_;try with_reducible exact tt
 refine CallS.pu (hwl) (R0 ?_);try with_reducible exact tt
theorem o_15c {k a w:Nat} (hk:k≠4) (hw:w≤10):Eqn Tryz.prog o_9v [.d (parD k a w)] [] (.d (.int .i64 (2^w:Nat))) []:=by
 refine Eqn.pure o_9x Plain.ok ?_
 have hk':¬(k:Int)=4:=by omega
 have e0:(2:Int)^w=(2^w:Nat):=by rw [Int.natCast_pow];rfl
 have h2:2^w≤1024:=Nat.pow_le_pow_right (n:=2) (by omega) hw
 refine cc (c':=?z252) ?_ ?_
 case refine_1=>cbv<;>exact rfl
 try simp only [parD]
 generalize 2^w=S at *
 have e1:IntKind.i64.wrap (S:Int)=S:=w64 (by omega) (by omega)
 refine A10 (fs hk (fs hk' (fs e0 e1))) ?_;try with_reducible exact tt
end
section
open Go.RowKit
def kyQ (P:St→Prop) (l:Sp):Prop:=∀p∈l,P p.1
theorem o_15d {P:St→Prop} {q:Rat}:∀{l out:Sp},kyQ P out→kyQ P l→kyQ P (innQ q out l)
 | [],out,h,_=>h
 | b::l,out,h,hl=>o_15d (out:=addQ out b.1 (q*b.2)) (l:=l) (fun p hp=>by
   rcases o_134 hp with hp | rfl
   ·exact h p hp
   ·exact hl b (by simp)) fun p hp=>hl p (by simp [hp])
theorem ky_at {P:St→Prop} {l:Sp} (h:kyQ P l):kyQ P (atQ l):=fun p hp=>h p (List.mem_filter.1 ((o_12v l).mem_iff.1 hp)).1
theorem o_15e {P P':St→Prop} {next:St→Sp} (hn:∀s,P s→kyQ P' (next s)) {l:Sp} (h:kyQ P l):kyQ P' (timesQ next l):=by
 have key:∀(k out:Sp),kyQ P' out→kyQ P k→kyQ P' (k.foldl (fun out a=>innQ a.2 out (atQ (next a.1))) out):=by
  intro k
  induction k with
  | nil=>intro out h _;exact h
  | cons a k ih =>
   intro out ho hk
   exact ih _ (o_15d ho (ky_at (hn _ (hk a (by simp))))) fun p hp=>hk p (by simp [hp])
 exact key _ _ (fun p hp=>by cases hp) (ky_at h)
def reach (top k:Nat) (i:Nat) (t:St):Prop:=t=(top,0,true)∨t.2=(0,false)∧k≤t.1∧t.1≤k+i∧t.1≤top
theorem o_15f {top k i:Nat} {c:Nat→Rat} {t:St} (h:reach top k i t):kyQ (reach top k (i+1)) (stepQ top c t):=by
 obtain ⟨a,b,f⟩:=t
 unfold stepQ
 split
 ·rename_i e
  intro p hp
  simp at hp;subst hp
  left
  rcases h with h | ⟨h,-⟩
  ·have h1:=congrArg (fun x:St=>x.2.1) h
   simp only at e h1
   rw [e,h1]
  ·simp only [Prod.mk.injEq] at h
   simp only at e
   rw [e,h.1]
 ·rename_i e
  simp only at e
  rcases h with h | ⟨h,h1,h2,h3⟩
  ·exact absurd (congrArg (fun x:St=>x.1) h) e
  ·simp only at h h1 h2 h3
   intro p hp
   unfold eitQ at hp
   rcases o_134 hp with hp | rfl
   ·rcases o_134 hp with hp | rfl
    ·cases hp
    ·exact .inr ⟨h,by simp only;omega,by simp only;omega,by simp only;omega⟩
   ·exact .inr ⟨h,h1,by simp only;omega,h3⟩
theorem o_15g {top:Nat} {c:Nat→Rat} {s:St} (hs:okQ top s):∀i,kyQ (reach top s.1 i) (ofQ (stepQ top c) s i)
 | 0=>fun p hp=>by
  simp [ofQ] at hp;subst hp
  obtain ⟨a,b,f⟩:=s
  obtain ⟨h1,h2,h3⟩:=hs
  simp only at h1 h2 h3
  subst h2
  cases f with
  | false=>exact .inr ⟨rfl,Nat.le_refl _,Nat.le_refl _,h1⟩
  | true=>left;rw [h3 rfl]
 | i+1=>o_15e (fun t ht=>o_15f ht) (o_15g hs i)
theorem o_15h {top k i:Nat} {l:Sp} (hu:Uq l) (h:kyQ (reach top k i) l):l.length≤i+2:=by
 have h1:(l.map (·.1)).length≤((top,0,true)::(List.range (i+1)).map fun j=>(k+j,0,false):List St).length:=by
  refine List.Nodup.length_le_of_subset hu fun t ht=>?_
  obtain ⟨p,hp,rfl⟩:=List.mem_map.1 ht
  rcases h p hp with e | ⟨e,e1,e2,-⟩
  ·rw [e];simp
  ·refine List.mem_cons_of_mem _ (List.mem_map.2 ⟨p.1.1-k,List.mem_range.2 (by omega),?_⟩)
   rw [show k+(p.1.1-k)=p.1.1 by omega,←e]
 simpa using h1
theorem o_15i (a:Nat) (h:size a≤1):∀n,size (a^n)≤n+1
 | 0=>Nat.le_trans (by decide:size 1≤1) (by omega)
 | n+1=>by
  rw [Nat.pow_succ]
  have:=o_u7 (a^n) a
  have:=o_15i a h n
  omega
theorem o_15j {G n:Nat} (hG:G≤2^63) (hn:n≤100):size (80*80^n*(G^n*G))≤100000∧size (80^n*G^n)≤100000:=by
 have h1:size G≤1:=o_p8 (Nat.lt_of_le_of_lt hG (by decide))
 have h2:size 80≤1:=o_p8 (by decide)
 have a1:=o_15i 80 h2 n
 have a2:=o_15i G h1 n
 have a3:=o_u7 (80*80^n) (G^n*G)
 have a4:=o_u7 80 (80^n)
 have a5:=o_u7 (G^n) G
 have a6:=o_u7 (80^n) (G^n)
 omega
theorem o_15k {k a w:Nat} (h:GoodS k a w):(∀x,x<topC w→0≤chP k a x)∧(∀x,x<topC w→chP k a x≤1):=by
 have h15:topC w≤15:=by have:=Nat.pow_le_pow_right (n:=2) (by omega) h.2.2;unfold topC;omega
 obtain ⟨G,hG,-,hc⟩:=o_14z h
 have hp:(0:Rat)<(G:Rat):=by exact_mod_cast hG
 refine ⟨fun x hx=>?_,fun x hx=>?_⟩
 ·obtain ⟨z,h1,h2⟩:=hc x (by omega)
  apply Classical.byContradiction
  intro hn
  have hz:(0:Rat)≤(z:Rat):=by exact_mod_cast Nat.zero_le z
  have:=Rat.mul_lt_mul_of_pos_right (Rat.not_le.1 hn) hp
  grind
 ·obtain ⟨z,h1,h2⟩:=hc x (by omega)
  apply Classical.byContradiction
  intro hn
  have hz:(z:Rat)≤(G:Rat):=by exact_mod_cast (by omega:z≤G)
  have:=Rat.mul_lt_mul_of_pos_right (Rat.not_le.1 hn) hp
  grind
end
section
open Go.RowKit
def dstQ (k a w:Nat) (s:St) (n:Nat):Sp:=ofQ (stepQ (topC w) (chP k a)) s n
end
section
open Go.RowKit
structure NextOK (next:St→Sp) (G:Nat) (s:St):Prop where
 uq:Uq (next s)
 nz:nzQ (next s)≠[]
 len:(next s).length≤2
 gr:∀p∈next s,Gr G 1 p.2
set_option maxHeartbeats 4000000 in
theorem o_15l {f:FuncId} {next:St→Sp} {T1:TypeId} {x0 x1 x2:D} (ho1:T1<1000000) (P:St→Prop) (l:Sp) (G D B:Nat) (hu:Uq l) (hok:∀p∈nzQ l,P p.1) (hnz:nzQ l≠[]) (h12:(nzQ l).length≤40) (hl:l.length≤1000000) (hD:0<D) (hB:1≤B) (hgl:∀p∈l,Gr D B p.2) (hG:0<G) (hf:∀s:St,P s→NextOK next G s∧Eqn Tryz.prog f [.d (.agg (stD s)),.p 0 0] [⟨T1,[.d x0,.d x1,.d x2]⟩] (.mp 1) [⟨T1,[.d x0,.d x1,.d x2]⟩,spO (next s)]) (hsz:size (80*B*(D*G))≤100000) :
  Eqn Tryz.prog o_a1 [.mp 0,.fn (.func f) [.p 1 0]] [spO l,⟨T1,[.d x0,.d x1,.d x2]⟩] (.mp 2) [spO l,⟨T1,[.d x0,.d x1,.d x2]⟩,spO (timesQ next l)]:=by
 refine Eqn.gen [0,1,2] o_a3 (by simp) (by simp) (by rfl) (by decide) (by simp) (by simp [spO,ho1]) ?_
 obtain ⟨A,hA⟩:∃A,A=atQ l:=⟨_,rfl⟩
 have hAl:A.length≤40:=by rw [hA,(o_12v l).length_eq];exact h12
 have hA0:1≤A.length:=by
  rw [hA,(o_12v l).length_eq]
  rcases Nat.eq_zero_or_pos (nzQ l).length with e | e
  ·exact absurd (List.eq_nil_of_length_eq_zero e) hnz
  ·exact e
 have hAm:∀p∈A,p∈l:=fun p hp=>(List.mem_filter.1 ((o_12v l).mem_iff.1 (hA▸hp))).1
 have hAz:∀p∈A,p∈nzQ l:=fun p hp=>(o_12v l).mem_iff.1 (hA▸hp)
 have hDG:0<D*G:=Nat.mul_pos hD hG
 have hBD:size (B*D)≤100000:=by
  refine Nat.le_trans (o_oq ?_) hsz
  calc B*D=B*D*1:=(Nat.mul_one _).symm
   _≤B*D*(80*G):=Nat.mul_le_mul_left _ (by omega)
   _=80*B*(D*G):=by simp [Nat.mul_comm,Nat.mul_left_comm,Nat.mul_assoc]
 have hat:=o_14x l hu hnz h12 hl (fun p hp=>(hgl p hp).rs hD hB hBD)
 have hGs:size (1*G)≤100000:=by
  refine Nat.le_trans (o_oq ?_) hsz
  calc 1*G≤(80*B*D)*G:=Nat.mul_le_mul_right _ (Nat.mul_pos (by omega) hD)
   _=80*B*(D*G):=by rw [Nat.mul_assoc]
 have hgn:∀s:St,P s→∀p∈next s,Gr G 1 p.2:=fun s hs=>(hf s hs).1.gr
 have hnl:∀s:St,P s→(atQ (next s)).length≤2:=fun s hs=>Nat.le_trans (o_158 _) (hf s hs).1.len
 have hout:=o_155 (D:=D) (E:=G) (B:=B) (J:=2) (next:=next) (A:=A) (fun p hp=>hgl p (hAm p hp)) (fun p hp=>⟨hgn p.1 (hok p (hAz p hp)),hnl p.1 (hok p (hAz p hp))⟩)
 have hon:=o_151 next A
 have hoa:outQ next A A.length=timesQ next l:=by rw [hA];exact o_152 next l
 have hADl:=o_12e rcD (fun _=>rfl) A
 have hget:=o_15a A
 rw [←hoa]
 rw [←hA] at hat
 have hcl:∀s:St,P s→Eqn Tryz.prog f [.d (.agg (stD s)),.p 0 0] [⟨T1,[.d x0,.d x1,.d x2]⟩] (.mp 1) [⟨T1,[.d x0,.d x1,.d x2]⟩,spO (next s)]∧Eqn Tryz.prog o_9p [.mp 0] [spO (next s)] (.d (.sl (atQ (next s)).length (spD rcD (atQ (next s))))) [spO (next s)]:=fun s hs=>by
  obtain ⟨hn,hh⟩:=hf s hs
  refine ⟨hh,o_14x _ hn.uq hn.nz ?_ ?_ fun p hp=>(hgn s hs p hp).rs hG (Nat.le_refl _) hGs⟩
  ·exact Nat.le_trans (List.length_filter_le _ _) (Nat.le_trans hn.len (by omega))
  ·exact Nat.le_trans hn.len (by omega)
 have hAok:∀p∈A,P p.1:=fun p hp=>hok p (hAz p hp)
 clear hA hoa hnz hf
 refine cc (c':=?z254) ?_ ?_
 case refine_1=>cbv<;>exact rfl
 try simp only [spO] at hat hcl ⊢
 generalize hLl:spD rcD l=LL at *
 refine A00 ?_;try with_reducible exact tt
 refine CallS.g [0] (hat) (R0 ?_);try with_reducible exact tt
 refine AW.loopG (α:=Nat) (fun i=>setS (List.replicate 40 .junk) [(1,.fn (.func f) [.p 1 0]),(5,.mp 2),(12,.d (.sl A.length (spD rcD A))),(13,.d (.int .i64 A.length)),(14,.d (.int .i64 (i:Nat)))]) (fun i=>[some ⟨1000391,LL.map .d⟩,some ⟨T1,[.d x0,.d x1,.d x2]⟩,some ⟨1000391,(spD rcD (outQ next A i)).map .d⟩]) (fun i=>i≤A.length) (fun i=>A.length-i) 0 ?_ (Nat.zero_le _) ?_ ?_ ?_
 ·intro i hi;simp
 ·simp
 ·simp [outQ,spD]
 rintro i hi
 simp
 by_cases hi2:i<A.length
 ·have hi3:(i:Int)<A.length:=by omega
  obtain ⟨s1,s2,s3,q,N1,N2,N3,hp,hN,hg⟩:=hget i hi2
  have hsk:=hAok _ (List.getElem_mem hi2)
  rw [hp] at hsk
  obtain ⟨hof,han⟩:=hcl (s1,s2,s3) hsk
  have hgq:Gr D B q:=by have:=hgl _ (hAm _ (List.getElem_mem hi2));rw [hp] at this;exact this
  have hon1:=hon i hi2
  rw [hp] at hon1
  simp only at hon1
  have hgo:=hout i hi
  have hn2:=hnl (s1,s2,s3) hsk
  have hgn2:=hgn (s1,s2,s3) hsk
  obtain ⟨C,hC⟩:∃C,C=atQ (next (s1,s2,s3)):=⟨_,rfl⟩
  have hCm:∀p∈C,Gr G 1 p.2:=fun p hp=>hgn2 p (List.mem_filter.1 ((o_12v _).mem_iff.1 (hC▸hp))).1
  rw [←hC] at hon1 han hn2
  have hCl:=o_12e rcD (fun _=>rfl) C
  have hgetC:=o_15a C
  have ewi:IntKind.i64.wrap ((i:Int)+1)=((i+1:Nat):Int):=by rw [w64 (by omega) (by omega)];omega
  simp only [stD] at hof han
  generalize hNL:spD rcD (next (s1,s2,s3))=NL at *
  have hb6:i*6+6≤A.length*6:=by omega
  have hb7:i*6<A.length*6:=by omega
  refine A10 (fs hi2 (fs hi3 (fs hg (fs hADl (fs hb6 hb7))))) ?_;try with_reducible exact tt
  refine CallS.g [1] (hof) (R0 ?_);try with_reducible exact tt
  refine CallS.g [4] (han) (R0 ?_);try with_reducible exact tt
  refine AW.loopG (α:=Nat) (fun j=>setS (List.replicate 40 .junk) [(1,.fn (.func f) [.p 1 0]),(5,.mp 2),(7,.p 3 0),(12,.d (.sl A.length (spD rcD A))),(13,.d (.int .i64 A.length)),(14,.d (.int .i64 (i:Nat))),(22,.d (.sl C.length (spD rcD C))),(23,.d (.int .i64 C.length)),(24,.d (.int .i64 (j:Nat)))]) (fun j=>[some ⟨1000391,LL.map .d⟩,some ⟨T1,[.d x0,.d x1,.d x2]⟩,some ⟨1000391,(spD rcD (innQ q (outQ next A i) (C.take j))).map .d⟩,some ⟨75,[.d (.int .i64 s1),.d (.int .i64 s2),.d (.bool s3),.d N1,.d N2,.d N3]⟩]) (fun j=>j≤C.length) (fun j=>C.length-j) 0 ?_ (Nat.zero_le _) ?_ ?_ ?_
  ·intro j hj;simp
  ·simp
  ·simp [innQ]
  rintro j hj
  simp
  by_cases hj2:j<C.length
  ·have hj3:(j:Int)<C.length:=by omega
   obtain ⟨t1,t2,t3,r,M1,M2,M3,hpc,hM,hgc⟩:=hgetC j hj2
   have hinn:=o_150 q (outQ next A i) C j hj2
   have hgr:=hCm _ (List.getElem_mem hj2)
   rw [hpc] at hinn hgr
   simp only at hinn hgr
   have hqr:=hgq.mul hgr
   have hgi:=o_154 (q:=q) (B:=B) hgo (C.take j) (fun p hp=>by
    have:=hgq.mul (hCm p (List.mem_of_mem_take hp))
    rwa [Nat.mul_one] at this)
   have hget2:=(o_153 hgi (t1,t2,t3)).le (C:=80*B) (by
    have e1:(C.take j).length≤2:=by rw [List.length_take];omega
    have e2:=Nat.mul_le_mul_right B e1
    have e3:i*2*B≤78*B:=Nat.mul_le_mul_right _ (by omega)
    omega)
   have hq1:=hgq.rs hD hB hBD
   have hr1:=hgr.rs hG (Nat.le_refl _) hGs
   have hmul:=o_ul q r hq1 hr1
   have hadd:=o_13f (innQ q (outQ next A i) (C.take j)) (t1,t2,t3) (q*r) (hget2.rs hDG (by omega) hsz) ((hqr.le (C:=80*B) (by omega)).rs hDG (by omega) hsz)
   have ewj:IntKind.i64.wrap ((j:Int)+1)=((j+1:Nat):Int):=by rw [w64 (by omega) (by omega)];omega
   have hc6:j*6+6≤C.length*6:=by omega
   have hc7:j*6<C.length*6:=by omega
   rw [←hinn] at hadd
   rw [rD_rc q,rD_rc r,rD_rc (q*r),hN,hM] at hmul
   rw [rD_rc (q*r)] at hadd
   obtain ⟨P1,P2,P3,hP⟩:∃P1 P2 P3,rcD (q*r)=[P1,P2,P3]:=⟨_,_,_,rfl⟩
   rw [hP] at hmul hadd
   simp only [spO,stD] at hadd
   refine A10 (fs hj2 (fs hj3 (fs hgc (fs hCl (fs hc6 hc7))))) ?_;try with_reducible exact tt
   refine CallS.pu (hmul) (R0 ?_);try with_reducible exact tt
   refine CallS.g [2] (hadd) (R0 ?_);try with_reducible exact tt
   refine A10 ewj ?_;try with_reducible exact tt
   refine ⟨j+1,2,2,⟨by omega,by omega,by omega,by omega⟩,by omega,by omega,?_,?_⟩
   ·simp [swT,swH,sw,Ob.sw,V.ren,V.rens]
   ·simp [swT,swH,sw,Ob.sw,V.ren,V.rens]
  ·have h2:j=C.length:=by omega
   subst h2
   rw [List.take_length,←hon1]
   refine A00 ?_;try with_reducible exact tt
   refine A10 ewi ?_;try with_reducible exact tt
   refine ⟨i+1,2,2,⟨by omega,by omega,by omega,by omega⟩,by omega,by omega,?_,?_⟩
   ·simp [swT,swH,sw,Ob.sw,V.ren,V.rens]
   ·simp [swT,swH,sw,Ob.sw,V.ren,V.rens]
 ·have h2:i=A.length:=by omega
  subst h2
  refine A00 ?_;try with_reducible exact tt
set_option maxHeartbeats 4000000 in
theorem o_15m {f:FuncId} {next:St→Sp} {T1 T2:TypeId} {x0 x1 x2 y0 y1 y2:D} (ho1:T1<1000000) (ho2:T2<1000000) (P:St→Prop) (l:Sp) (G D B:Nat) (hu:Uq l) (hok:∀p∈nzQ l,P p.1) (hnz:nzQ l≠[]) (h12:(nzQ l).length≤40) (hl:l.length≤1000000) (hD:0<D) (hB:1≤B) (hgl:∀p∈l,Gr D B p.2) (hG:0<G) (hf:∀s:St,P s→NextOK next G s∧Eqn Tryz.prog f [.d (.agg (stD s)),.p 0 0,.p 1 0] [⟨T1,[.d x0,.d x1,.d x2]⟩,⟨T2,[.d y0,.d y1,.d y2]⟩] (.mp 2) [⟨T1,[.d x0,.d x1,.d x2]⟩,⟨T2,[.d y0,.d y1,.d y2]⟩,spO (next s)]) (hsz:size (80*B*(D*G))≤100000) :
  Eqn Tryz.prog o_a1 [.mp 0,.fn (.func f) [.p 1 0,.p 2 0]] [spO l,⟨T1,[.d x0,.d x1,.d x2]⟩,⟨T2,[.d y0,.d y1,.d y2]⟩] (.mp 3) [spO l,⟨T1,[.d x0,.d x1,.d x2]⟩,⟨T2,[.d y0,.d y1,.d y2]⟩,spO (timesQ next l)]:=by
 refine Eqn.gen [0,1,2,3] o_a3 (by simp) (by simp) (by rfl) (by decide) (by simp) (by simp [spO,ho1,ho2]) ?_
 obtain ⟨A,hA⟩:∃A,A=atQ l:=⟨_,rfl⟩
 have hAl:A.length≤40:=by rw [hA,(o_12v l).length_eq];exact h12
 have hA0:1≤A.length:=by
  rw [hA,(o_12v l).length_eq]
  rcases Nat.eq_zero_or_pos (nzQ l).length with e | e
  ·exact absurd (List.eq_nil_of_length_eq_zero e) hnz
  ·exact e
 have hAm:∀p∈A,p∈l:=fun p hp=>(List.mem_filter.1 ((o_12v l).mem_iff.1 (hA▸hp))).1
 have hAz:∀p∈A,p∈nzQ l:=fun p hp=>(o_12v l).mem_iff.1 (hA▸hp)
 have hDG:0<D*G:=Nat.mul_pos hD hG
 have hBD:size (B*D)≤100000:=by
  refine Nat.le_trans (o_oq ?_) hsz
  calc B*D=B*D*1:=(Nat.mul_one _).symm
   _≤B*D*(80*G):=Nat.mul_le_mul_left _ (by omega)
   _=80*B*(D*G):=by simp [Nat.mul_comm,Nat.mul_left_comm,Nat.mul_assoc]
 have hat:=o_14x l hu hnz h12 hl (fun p hp=>(hgl p hp).rs hD hB hBD)
 have hGs:size (1*G)≤100000:=by
  refine Nat.le_trans (o_oq ?_) hsz
  calc 1*G≤(80*B*D)*G:=Nat.mul_le_mul_right _ (Nat.mul_pos (by omega) hD)
   _=80*B*(D*G):=by rw [Nat.mul_assoc]
 have hgn:∀s:St,P s→∀p∈next s,Gr G 1 p.2:=fun s hs=>(hf s hs).1.gr
 have hnl:∀s:St,P s→(atQ (next s)).length≤2:=fun s hs=>Nat.le_trans (o_158 _) (hf s hs).1.len
 have hout:=o_155 (D:=D) (E:=G) (B:=B) (J:=2) (next:=next) (A:=A) (fun p hp=>hgl p (hAm p hp)) (fun p hp=>⟨hgn p.1 (hok p (hAz p hp)),hnl p.1 (hok p (hAz p hp))⟩)
 have hon:=o_151 next A
 have hoa:outQ next A A.length=timesQ next l:=by rw [hA];exact o_152 next l
 have hADl:=o_12e rcD (fun _=>rfl) A
 have hget:=o_15a A
 rw [←hoa]
 rw [←hA] at hat
 have hcl:∀s:St,P s→Eqn Tryz.prog f [.d (.agg (stD s)),.p 0 0,.p 1 0] [⟨T1,[.d x0,.d x1,.d x2]⟩,⟨T2,[.d y0,.d y1,.d y2]⟩] (.mp 2) [⟨T1,[.d x0,.d x1,.d x2]⟩,⟨T2,[.d y0,.d y1,.d y2]⟩,spO (next s)]∧Eqn Tryz.prog o_9p [.mp 0] [spO (next s)] (.d (.sl (atQ (next s)).length (spD rcD (atQ (next s))))) [spO (next s)]:=fun s hs=>by
  obtain ⟨hn,hh⟩:=hf s hs
  refine ⟨hh,o_14x _ hn.uq hn.nz ?_ ?_ fun p hp=>(hgn s hs p hp).rs hG (Nat.le_refl _) hGs⟩
  ·exact Nat.le_trans (List.length_filter_le _ _) (Nat.le_trans hn.len (by omega))
  ·exact Nat.le_trans hn.len (by omega)
 have hAok:∀p∈A,P p.1:=fun p hp=>hok p (hAz p hp)
 clear hA hoa hnz hf
 refine cc (c':=?z255) ?_ ?_
 case refine_1=>cbv<;>exact rfl
 try simp only [spO] at hat hcl ⊢
 generalize hLl:spD rcD l=LL at *
 refine A00 ?_;try with_reducible exact tt
 refine CallS.g [0] (hat) (R0 ?_);try with_reducible exact tt
 refine AW.loopG (α:=Nat) (fun i=>setS (List.replicate 40 .junk) [(1,.fn (.func f) [.p 1 0,.p 2 0]),(5,.mp 3),(12,.d (.sl A.length (spD rcD A))),(13,.d (.int .i64 A.length)),(14,.d (.int .i64 (i:Nat)))]) (fun i=>[some ⟨1000391,LL.map .d⟩,some ⟨T1,[.d x0,.d x1,.d x2]⟩,some ⟨T2,[.d y0,.d y1,.d y2]⟩,some ⟨1000391,(spD rcD (outQ next A i)).map .d⟩]) (fun i=>i≤A.length) (fun i=>A.length-i) 0 ?_ (Nat.zero_le _) ?_ ?_ ?_
 ·intro i hi;simp
 ·simp
 ·simp [outQ,spD]
 rintro i hi
 simp
 by_cases hi2:i<A.length
 ·have hi3:(i:Int)<A.length:=by omega
  obtain ⟨s1,s2,s3,q,N1,N2,N3,hp,hN,hg⟩:=hget i hi2
  have hsk:=hAok _ (List.getElem_mem hi2)
  rw [hp] at hsk
  obtain ⟨hof,han⟩:=hcl (s1,s2,s3) hsk
  have hgq:Gr D B q:=by have:=hgl _ (hAm _ (List.getElem_mem hi2));rw [hp] at this;exact this
  have hon1:=hon i hi2
  rw [hp] at hon1
  simp only at hon1
  have hgo:=hout i hi
  have hn2:=hnl (s1,s2,s3) hsk
  have hgn2:=hgn (s1,s2,s3) hsk
  obtain ⟨C,hC⟩:∃C,C=atQ (next (s1,s2,s3)):=⟨_,rfl⟩
  have hCm:∀p∈C,Gr G 1 p.2:=fun p hp=>hgn2 p (List.mem_filter.1 ((o_12v _).mem_iff.1 (hC▸hp))).1
  rw [←hC] at hon1 han hn2
  have hCl:=o_12e rcD (fun _=>rfl) C
  have hgetC:=o_15a C
  have ewi:IntKind.i64.wrap ((i:Int)+1)=((i+1:Nat):Int):=by rw [w64 (by omega) (by omega)];omega
  simp only [stD] at hof han
  generalize hNL:spD rcD (next (s1,s2,s3))=NL at *
  have hb6:i*6+6≤A.length*6:=by omega
  have hb7:i*6<A.length*6:=by omega
  refine A10 (fs hi2 (fs hi3 (fs hg (fs hADl (fs hb6 hb7))))) ?_;try with_reducible exact tt
  refine CallS.g [1,2] (hof) (R0 ?_);try with_reducible exact tt
  refine CallS.g [5] (han) (R0 ?_);try with_reducible exact tt
  refine AW.loopG (α:=Nat) (fun j=>setS (List.replicate 40 .junk) [(1,.fn (.func f) [.p 1 0,.p 2 0]),(5,.mp 3),(7,.p 4 0),(12,.d (.sl A.length (spD rcD A))),(13,.d (.int .i64 A.length)),(14,.d (.int .i64 (i:Nat))),(22,.d (.sl C.length (spD rcD C))),(23,.d (.int .i64 C.length)),(24,.d (.int .i64 (j:Nat)))]) (fun j=>[some ⟨1000391,LL.map .d⟩,some ⟨T1,[.d x0,.d x1,.d x2]⟩,some ⟨T2,[.d y0,.d y1,.d y2]⟩,some ⟨1000391,(spD rcD (innQ q (outQ next A i) (C.take j))).map .d⟩,some ⟨75,[.d (.int .i64 s1),.d (.int .i64 s2),.d (.bool s3),.d N1,.d N2,.d N3]⟩]) (fun j=>j≤C.length) (fun j=>C.length-j) 0 ?_ (Nat.zero_le _) ?_ ?_ ?_
  ·intro j hj;simp
  ·simp
  ·simp [innQ]
  rintro j hj
  simp
  by_cases hj2:j<C.length
  ·have hj3:(j:Int)<C.length:=by omega
   obtain ⟨t1,t2,t3,r,M1,M2,M3,hpc,hM,hgc⟩:=hgetC j hj2
   have hinn:=o_150 q (outQ next A i) C j hj2
   have hgr:=hCm _ (List.getElem_mem hj2)
   rw [hpc] at hinn hgr
   simp only at hinn hgr
   have hqr:=hgq.mul hgr
   have hgi:=o_154 (q:=q) (B:=B) hgo (C.take j) (fun p hp=>by
    have:=hgq.mul (hCm p (List.mem_of_mem_take hp))
    rwa [Nat.mul_one] at this)
   have hget2:=(o_153 hgi (t1,t2,t3)).le (C:=80*B) (by
    have e1:(C.take j).length≤2:=by rw [List.length_take];omega
    have e2:=Nat.mul_le_mul_right B e1
    have e3:i*2*B≤78*B:=Nat.mul_le_mul_right _ (by omega)
    omega)
   have hq1:=hgq.rs hD hB hBD
   have hr1:=hgr.rs hG (Nat.le_refl _) hGs
   have hmul:=o_ul q r hq1 hr1
   have hadd:=o_13f (innQ q (outQ next A i) (C.take j)) (t1,t2,t3) (q*r) (hget2.rs hDG (by omega) hsz) ((hqr.le (C:=80*B) (by omega)).rs hDG (by omega) hsz)
   have ewj:IntKind.i64.wrap ((j:Int)+1)=((j+1:Nat):Int):=by rw [w64 (by omega) (by omega)];omega
   have hc6:j*6+6≤C.length*6:=by omega
   have hc7:j*6<C.length*6:=by omega
   rw [←hinn] at hadd
   rw [rD_rc q,rD_rc r,rD_rc (q*r),hN,hM] at hmul
   rw [rD_rc (q*r)] at hadd
   obtain ⟨P1,P2,P3,hP⟩:∃P1 P2 P3,rcD (q*r)=[P1,P2,P3]:=⟨_,_,_,rfl⟩
   rw [hP] at hmul hadd
   simp only [spO,stD] at hadd
   refine A10 (fs hj2 (fs hj3 (fs hgc (fs hCl (fs hc6 hc7))))) ?_;try with_reducible exact tt
   refine CallS.pu (hmul) (R0 ?_);try with_reducible exact tt
   refine CallS.g [3] (hadd) (R0 ?_);try with_reducible exact tt
   refine A10 ewj ?_;try with_reducible exact tt
   refine ⟨j+1,3,3,⟨by omega,by omega,by omega,by omega⟩,by omega,by omega,?_,?_⟩
   ·simp [swT,swH,sw,Ob.sw,V.ren,V.rens]
   ·simp [swT,swH,sw,Ob.sw,V.ren,V.rens]
  ·have h2:j=C.length:=by omega
   subst h2
   rw [List.take_length,←hon1]
   refine A00 ?_;try with_reducible exact tt
   refine A10 ewi ?_;try with_reducible exact tt
   refine ⟨i+1,3,3,⟨by omega,by omega,by omega,by omega⟩,by omega,by omega,?_,?_⟩
   ·simp [swT,swH,sw,Ob.sw,V.ren,V.rens]
   ·simp [swT,swH,sw,Ob.sw,V.ren,V.rens]
 ·have h2:i=A.length:=by omega
  subst h2
  refine A00 ?_;try with_reducible exact tt
end
section
open Go.RowKit
theorem o_15n (n:Nat):wD (n:Int) = .agg [natW n,.bool false]:=by
 unfold wD
 rw [Int.natAbs_natCast]
 congr 4
theorem o_15o (p q:Nat) (h0:0<q) (hp:size p≤900000) (hq:size q≤900000):Eqn Tryz.prog o_9a [.d (.agg [natW p,.bool false]),.d (.agg [natW q,.bool false])] [] (.tup [.d (rD (mkRat p q)),.d (.int .i64 0)]) []:=by
 refine Eqn.pure o_9c Plain.ok ?_
 have ha:=o_pa q false
 have hp1:=o_pa p false
 have hn1:=o_pb p false
 have hn2:=o_pb q false
 have hz:=o_o7 q
 have hq0:(q==0)=false:=by simp;omega
 rw [hq0] at hz
 have h4:=o_ub false p (p:Int) rfl
 have h5:=o_ui (p:Int) q h0 (by rw [Int.natAbs_natCast];exact hp) hq
 rw [o_15n] at h4 h5
 refine cc (c':=?z256) ?_ ?_
 case refine_1=>cbv<;>exact rfl
 try simp only [rD] at h5 ⊢
 refine G0 ?_;try with_reducible exact tt
 refine CallS.pu (ha) (R0 ?_);try with_reducible exact tt
 refine CallS.pu (hz) (R0 ?_);try with_reducible exact tt
 refine AW.cond rfl (fun h=>?_) (fun h=>?_)
 ·simp at h
 refine G0 ?_;try with_reducible exact tt
 refine CallS.pu (hn1) (R0 ?_);try with_reducible exact tt
 refine CallS.pu (hn2) (R0 ?_);try with_reducible exact tt
 refine CallS.pu (hp1) (R0 ?_);try with_reducible exact tt
 refine CallS.pu (h4) (R0 ?_);try with_reducible exact tt
 refine CallS.pu (ha) (R0 ?_);try with_reducible exact tt
 refine CallS.pu (h5) (R0 ?_);try with_reducible exact tt
theorem o_15p (x y:Rat) (hx:RS x 100000) (hy:RS y 100000) (hx0:0≤x.num) (hy0:0<y.num):Eqn Tryz.prog o_hk [.d (rD x),.d (rD y)] [] (.tup [.d (rD (x/y)),.d (.int .i64 0)]) []:=by
 refine Eqn.pure o_hm Plain.ok ?_
 have x1:=hx.1;have x2:=hx.2;have y1:=hy.1;have y2:=hy.2
 obtain ⟨u,hu⟩:∃u:Nat,x.num=(u:Int):=⟨x.num.natAbs,by omega⟩
 obtain ⟨v,hv⟩:∃v:Nat,y.num=(v:Int):=⟨y.num.natAbs,by omega⟩
 have hu2:x.num.natAbs=u:=by omega
 have hv2:y.num.natAbs=v:=by omega
 have h1:=o_ue x.num y.den (by omega) (by rw [Int.natAbs_natCast];omega)
 have h2:=o_ue y.num x.den (by omega) (by rw [Int.natAbs_natCast];omega)
 have h3:=o_uk x (by omega)
 have h4:=o_uk y (by omega)
 rw [hu2] at x1;rw [hv2] at y1
 have s1:=o_u7 u y.den
 have s2:=o_u7 v x.den
 have h5:=o_15o (u*y.den) (v*x.den) (Nat.mul_pos (by omega) x.den_pos) (by omega) (by omega)
 have e:mkRat ((u*y.den:Nat):Int) (v*x.den)=x/y:=by
  have hd:=o_14y x.den_pos
  have hd2:=o_14y y.den_pos
  have hv0:(v:Rat)≠0:=o_14y (by omega)
  have ex:x=(u:Rat)/(x.den:Rat):=by
   have h:=Rat.mkRat_self x
   rw [Rat.mkRat_eq_div,hu] at h
   exact h.symm
  have ey:y=(v:Rat)/(y.den:Rat):=by
   have h:=Rat.mkRat_self y
   rw [Rat.mkRat_eq_div,hv] at h
   exact h.symm
  rw [Rat.mkRat_eq_div]
  have k1:(((u*y.den:Nat):Int):Rat)=(u:Rat)*(y.den:Rat):=by push_cast;rfl
  have k2:((v*x.den:Nat):Rat)=(v:Rat)*(x.den:Rat):=by simp
  rw [k1,k2]
  generalize hxd:(x.den:Rat)=xd at *
  generalize hyd:(y.den:Rat)=yd at *
  generalize (u:Rat)=uu at *
  generalize (v:Rat)=vv at *
  rw [ex,ey]
  grind
 rw [e] at h5
 rw [hu] at h1;rw [hv] at h2
 rw [←Int.natCast_mul,o_15n,o_15n,o_15n] at h1 h2
 rw [o_15n] at h3 h4
 refine cc (c':=?z257) ?_ ?_
 case refine_1=>cbv<;>exact rfl
 try simp only [rD,hu2,hv2,hu,hv] at h1 h2 h3 h4 h5 ⊢
 refine G0 ?_;try with_reducible exact tt
 refine CallS.pu (h4) (R0 ?_);try with_reducible exact tt
 refine CallS.pu (h1) (R0 ?_);try with_reducible exact tt
 refine CallS.pu (h3) (R0 ?_);try with_reducible exact tt
 refine CallS.pu (h2) (R0 ?_);try with_reducible exact tt
 refine CallS.pu (h5) (R0 ?_);try with_reducible exact tt
end
section
open Go.RowKit
end
section
open Go.RowKit
theorem powB {a E k:Nat} (h:a<2^E):a^k<2^(E*k+1):=by
 have h1:a^k≤(2^E)^k:=Nat.pow_le_pow_left (Nat.le_of_lt h) k
 rw [←Nat.pow_mul] at h1
 have:=Nat.two_pow_pos (E*k)
 rw [Nat.pow_succ];omega
theorem dpowB (a k:Nat) (ha:a≤4097) (hk:k≤24):Eqn Tryz.prog o_fk [.d (nD a),.d (.int .i64 k)] [] (.d (nD (a^k))) [] :=
 have h13:a<2^13:=by omega
 o_121 a k (by omega) (fun i hi=>sizeB (powB (k:=i) h13) (by omega)) (sizeB h13 (by omega))
theorem o_15q (p q:Nat):Eqn Tryz.prog o_fh [.d (nD p),.d (nD q)] [] (.d (qD3 p 0 q)) []:=by
 refine Eqn.pure o_fj Plain.ok ?_
 have h1:=(o_11l p 0 q).sub (args:=[.d (.agg [nD p,.nilsl]),.d (nD q)]) (Subs.cons (Sub1.aggd (l:=[nD p,.nilsl]) (Subs.cons (Sub1.refl _) (Subs.cons Sub1.nil (Subs.refl _)))) (Subs.refl _))
 refine cc (c':=?z263) ?_ ?_
 case refine_1=>cbv<;>exact rfl
 try simp only [qD3] at h1 ⊢
 generalize qD1:nD p=D1 at *
 obtain ⟨nD1,lD1,rfl⟩:∃n l,D1=D.sl n l:=⟨_,_,qD1.symm⟩
 clear qD1
 generalize qD2:nD q=D2 at *
 obtain ⟨nD2,lD2,rfl⟩:∃n l,D2=D.sl n l:=⟨_,_,qD2.symm⟩
 clear qD2
 generalize qD3:nD 0=D3 at *
 obtain ⟨nD3,lD3,rfl⟩:∃n l,D3=D.sl n l:=⟨_,_,qD3.symm⟩
 clear qD3
 refine A01 h1 ?_;try with_reducible exact tt
theorem o_15r (a k:Nat) (ha:a≤4096) (hk:k≤24):Eqn Tryz.prog o_bv [.d (.int .i64 a),.d (.int .i64 k)] [] (.d (qD3 (a^k) 0 ((a+1)^k))) []:=by
 refine Eqn.pure o_bx Plain.ok ?_
 have s1:=o_106 a (by omega)
 have s2:=o_106 (a+1) (by omega)
 have p1:=dpowB a k (by omega) hk
 have p2:=dpowB (a+1) k (by omega) hk
 have f1:=o_15q (a^k) ((a+1)^k)
 have e1:IntKind.i64.wrap ((a:Int)+1)=((a+1:Nat):Int):=by rw [w64 (by omega) (by omega)];omega
 refine cc (c':=?z264) ?_ ?_
 case refine_1=>cbv<;>exact rfl
 try simp only [qD3] at f1 ⊢
 generalize qD1:nD ((a+1)^k)=D1 at *
 obtain ⟨nD1,lD1,rfl⟩:∃n l,D1=D.sl n l:=⟨_,_,qD1.symm⟩
 clear qD1
 generalize qD2:nD (a^k)=D2 at *
 obtain ⟨nD2,lD2,rfl⟩:∃n l,D2=D.sl n l:=⟨_,_,qD2.symm⟩
 clear qD2
 generalize qD4:nD (a+1)=D4 at *
 obtain ⟨nD4,lD4,rfl⟩:∃n l,D4=D.sl n l:=⟨_,_,qD4.symm⟩
 clear qD4
 generalize qD5:nD a=D5 at *
 obtain ⟨nD5,lD5,rfl⟩:∃n l,D5=D.sl n l:=⟨_,_,qD5.symm⟩
 clear qD5
 generalize qD3:nD 0=D3 at *
 obtain ⟨nD3,lD3,rfl⟩:∃n l,D3=D.sl n l:=⟨_,_,qD3.symm⟩
 clear qD3
 generalize a+1=A1 at *
 refine A16 e1 s1 p1 s2 p2 f1 f1 ?_;try with_reducible exact tt
theorem o_15s (a k:Nat) (ha:1≤a):chM a k=qval (a^k) 0 ((a+1)^k):=by
 unfold chM qval
 rw [o_vi]
 obtain ⟨q1,q2⟩:=o_11w (a:=a)
 rw [q1,q2,Int.natCast_zero,Int.sub_zero,Int.natCast_pow]
end
section
open Go.RowKit
theorem o_15t:∀a,a<3→∀x,x<15→(placeY a x).shift≤(placeY a (x+1)).shift:=by decide
theorem o_15u {k a w r x:Nat} (h:GoodS k a w) (hk:k≠1) (hr:r≤x) (hx:x≤15):expOf k a r≤expOf k a x:=by
 unfold expOf
 split
 ·exact Nat.div_le_div_right hr
 ·have ha:a<3:=by have:=h.1;omega
  have key:∀d,r+d≤15→(placeY a r).shift≤(placeY a (r+d)).shift:=by
   intro d
   induction d with
   | zero=>intro _;exact Nat.le_refl _
   | succ d ih=>intro hd;exact Nat.le_trans (ih (by omega)) (o_15t a ha (r+d) (by omega))
  have:=key (x-r) (by omega)
  rwa [show r+(x-r)=x by omega] at this
theorem o_15v (e:Nat):mkRat 1 (2^e)*((2^e:Nat):Rat)=1:=by
 rw [Rat.mkRat_eq_div]
 have:=Rat.div_mul_cancel (a:=((1:Int):Rat)) (o_14y (Nat.two_pow_pos e))
 simpa using this
theorem o_15w {e:Nat} (he:e≤63):Gr (2^63) 1 (mkRat 1 (2^e)):=by
 refine ⟨2^(63-e),?_,by rw [Nat.one_mul];exact Nat.pow_le_pow_right (by decide) (by omega)⟩
 have e1:=o_15v e
 have e2:((2^63:Nat):Rat)=((2^e:Nat):Rat)*((2^(63-e):Nat):Rat):=by
  have:2^63=2^e*2^(63-e):=by rw [←Nat.pow_add];congr 1;omega
  rw [this];simp
 rw [e2,←Rat.mul_assoc,e1];grind
theorem o_15x {e f:Nat} (h:f≤e):mkRat 1 (2^e)/mkRat 1 (2^f)=mkRat 1 (2^(e-f)):=by
 have h1:=o_15v e
 have h2:=o_15v f
 have h3:=o_15v (e-f)
 have h4:((2^e:Nat):Rat)=((2^f:Nat):Rat)*((2^(e-f):Nat):Rat):=by
  have:2^e=2^f*2^(e-f):=by rw [←Nat.pow_add];congr 1;omega
  rw [this];simp
 rw [h4] at h1
 generalize mkRat 1 (2^e)=x at *
 generalize mkRat 1 (2^f)=y at *
 generalize mkRat 1 (2^(e-f))=z at *
 generalize ((2^f:Nat):Rat)=u at *
 generalize ((2^(e-f):Nat):Rat)=v at *
 have hy:y≠0:=by intro hy;subst hy;simp at h2
 have:x=z*y:=by grind
 rw [this]
 exact Rat.mul_div_cancel hy
theorem o_15y {a:Nat} (ha:1≤a) (n:Nat):chM a n≠0:=by
 unfold chM
 have h:mkRat (a:Int) (a+1)≠0:=by
  rw [Rat.mkRat_eq_div]
  have h1:((a:Int):Rat)≠0:=o_14y (by omega:0<a)
  have h2:=o_14y (by omega:0<a+1)
  intro e
  have:=Rat.div_mul_cancel (a:=((a:Int):Rat)) h2
  rw [e] at this
  simp at this
  exact h1 (by simpa using this.symm)
 induction n with
 | zero=>simp
 | succ n ih =>
  rw [Rat.pow_succ]
  intro e
  rcases Rat.mul_eq_zero.1 e with e | e
  ·exact ih e
  ·exact h e
theorem o_15z (q:Rat) (m:Nat):∀n,q^(m+n)=q^m*q^n
 | 0=>by simp
 | n+1=>by rw [←Nat.add_assoc,Rat.pow_succ,Rat.pow_succ,o_15z q m n,Rat.mul_assoc]
theorem o_160 {a:Nat} (ha:1≤a) {r x:Nat} (hr:r≤x):chM a x/chM a r=chM a (x-r):=by
 have h:=o_15y ha r
 have e:chM a x=chM a (x-r)*chM a r:=by
  unfold chM
  rw [←o_15z,show x-r+r=x by omega]
 rw [e]
 exact Rat.mul_div_cancel h
theorem gs_a {k a w:Nat} (h:GoodS k a w) (hk:k=1):1≤a∧a≤4:=by
 rcases h.1 with ⟨-,h1,h2⟩ | ⟨h1,-⟩ | ⟨h1,-⟩
 ·exact ⟨h1,h2⟩
 ·omega
 ·omega
theorem o_161 {k a w x:Nat} (h:GoodS k a w) (hx:x≤15):chP k a x≠0:=by
 unfold chP
 split
 ·rename_i hk
  exact o_15y (gs_a h hk).1 x
 ·intro e
  have:=o_15v (expOf k a x)
  rw [e] at this
  simp at this
def ratC (k a r x:Nat):Rat:=if r≤x then chP k a x/chP k a r else 0
theorem o_162 {k a w:Nat} (h:GoodS k a w):∃G:Nat,0<G∧G≤2^63∧(∀x,x≤15→Gr G 1 (chP k a x))∧∀r x,x≤15→Gr G 1 (ratC k a r x):=by
 by_cases hk:k=1
 ·obtain ⟨G,h1,h2,h3⟩:=o_14z h
  refine ⟨G,h1,h2,h3,fun r x hx=>?_⟩
  unfold ratC
  split
  ·rename_i hr
   have:=h3 (x-r) (by omega)
   subst hk
   rw [chP,if_pos rfl] at this ⊢
   rw [chP,if_pos rfl,o_160 (gs_a h rfl).1 hr]
   exact this
  ·exact Gr.zero _ _
 ·refine ⟨2^63,by decide,Nat.le_refl _,fun x hx=>?_,fun r x hx=>?_⟩
  ·rw [chP,if_neg hk]
   have:=o_z1 h hk hx
   exact o_15w (by omega)
  ·unfold ratC
   split
   ·rename_i hr
    rw [chP,if_neg hk,chP,if_neg hk,o_15x (o_15u h hk hr hx)]
    have:=o_z1 h hk hx
    exact o_15w (by omega)
   ·exact Gr.zero _ _
theorem gr_01 {G:Nat} (hG:0<G) {q:Rat} (h:Gr G 1 q):0≤q∧q≤1:=by
 have hp:(0:Rat)<(G:Rat):=by exact_mod_cast hG
 obtain ⟨z,h1,h2⟩:=h
 refine ⟨?_,?_⟩
 ·apply Classical.byContradiction
  intro hn
  have hz:(0:Rat)≤(z:Rat):=by exact_mod_cast Nat.zero_le z
  have:=Rat.mul_lt_mul_of_pos_right (Rat.not_le.1 hn) hp
  grind
 ·apply Classical.byContradiction
  intro hn
  have hz:(z:Rat)≤(G:Rat):=by exact_mod_cast (by omega:z≤G)
  have:=Rat.mul_lt_mul_of_pos_right (Rat.not_le.1 hn) hp
  grind
theorem o_163 {k a w r x:Nat} (h:GoodS k a w) (hx:x≤15):RS (ratC k a r x) 1000:=by
 obtain ⟨G,h1,h2,-,h3⟩:=o_162 h
 exact (h3 r x hx).rs h1 (Nat.le_refl _) (Nat.le_trans (o_p8 (Nat.lt_of_le_of_lt (by omega) (by decide:2^63<2^64))) (by omega))
end
section
open Go.RowKit
def RO (q:Rat):Ob:=⟨47,[.d (natW q.num.natAbs),.d (.bool (decide (q.num<0))),.d (natW (q.den-1))]⟩
def SO (s:St):Ob:=⟨64,[.d (.int .i64 s.1),.d (.int .i64 s.2.1),.d (.bool s.2.2)]⟩
theorem o_164 {G:Nat} (hG:0<G) {q:Rat} (h:Gr G 1 q):0≤q.num:=by
 have:=(gr_01 hG h).1
 exact Rat.num_nonneg.2 this
theorem o_165 {k a w:Nat} (h:GoodS k a w) (s:St) (hs:s.1≤topC w) (r:Nat) (hr:r≤s.1) (hrt:r<topC w):Eqn Tryz.prog o_hh [.d (.agg (stD s)),.p 0 0,.p 1 0] [PO k a w,RO (chP k a r)] (.mp 2) [PO k a w,RO (chP k a r),spO (stepQ (topC w) (ratC k a r) s)]:=by
 have h15:topC w≤15:=by have:=Nat.pow_le_pow_right (n:=2) (by omega) h.2.2;unfold topC;omega
 have hl:=o_13q k a w
 obtain ⟨G,hG,hG63,hc1,hc2⟩:=o_162 h
 have hGs:size (1*G)≤1000:=Nat.le_trans (o_p8 (Nat.lt_of_le_of_lt (by omega) (by decide:2^63<2^64))) (by omega)
 have hrs:=o_163 (r:=r) (x:=s.1) h (by omega)
 have hst:stepQ (topC w) (ratC k a r) s=onQ w s (ratC k a r s.1):=rfl
 rw [hst]
 have hrc:ratC k a r s.1=chP k a s.1/chP k a r:=by unfold ratC;rw [if_pos hr]
 have hy0:0<(chP k a r).num:=by
  have h1:=o_164 hG (hc1 r (by omega))
  have h2:(chP k a r).num≠0:=fun e=>o_161 h (x:=r) (by omega) (Rat.num_eq_zero.1 e)
  omega
 have key:∃x0 x1 x2:D,Sub1 (.d (.agg [x0,x1,x2])) (.d (rD (if s.1=topC w then 0 else chP k a s.1)))∧Eqn Tryz.prog o_dy [.d (parD k a w),.d (.int .i64 s.1)] [] (.tup [.d (.agg [x0,x1,x2]),.d (.int .i64 0)]) []:=by
  by_cases e:s.1=topC w
  ·refine ⟨_,_,_,by rw [if_pos e];exact o_13d,?_⟩
   have:=o_13p h
   rw [show 2^w-1=s.1 from e.symm] at this
   exact this
  ·refine ⟨_,_,_,by rw [if_neg e];exact Sub1.refl _,o_13o h (by unfold topC at *;omega)⟩
 obtain ⟨x0,x1,x2,hX,hch⟩:=key
 have key2:∃q:Rat,RS q 1000∧onQ w s q=onQ w s (ratC k a r s.1)∧Eqn Tryz.prog o_hk [.d (.agg [x0,x1,x2]),.d (rD (chP k a r))] [] (.tup [.d (rD q),.d (.int .i64 0)]) []:=by
  have hyr:=((hc1 r (by omega)).rs hG (Nat.le_refl _) hGs).le (show 1000≤100000 by omega)
  by_cases e:s.1=topC w
  ·rw [if_pos e] at hX
   refine ⟨0,⟨by decide,by decide⟩,by unfold onQ;rw [if_pos e,if_pos e],?_⟩
   have:=o_15p 0 (chP k a r) ⟨by decide,by decide⟩ hyr (by decide) hy0
   rw [show (0:Rat)/chP k a r=0 by grind] at this
   exact this.sub (Subs.cons hX (Subs.refl _))
  ·rw [if_neg e] at hX
   refine ⟨ratC k a r s.1,hrs,rfl,?_⟩
   have:=o_15p (chP k a s.1) (chP k a r) (((hc1 s.1 (by omega)).rs hG (Nat.le_refl _) hGs).le (by omega)) hyr (o_164 hG (hc1 s.1 (by omega))) hy0
   rw [←hrc] at this
   exact this.sub (Subs.cons hX (Subs.refl _))
 obtain ⟨q,hq,hqo,hdv⟩:=key2
 have hon:=o_142 h s hs q hq (rD q) (Sub1.refl _) ⟨_,_,_,rfl⟩
 rw [hqo] at hon
 refine Eqn.gen [0,1,5] o_hj (by simp) (by simp) (by rfl) (by decide) (by simp) (by simp [spO,PO,RO]) ?_
 refine cc (c':=?z265) ?_ ?_
 case refine_1=>cbv<;>exact rfl
 try simp only [spO,stD,parD,PO,RO,rD] at hl hch hdv hon ⊢
 generalize spD rcD _=L at *
 generalize natW (chP k a r).num.natAbs=Y0 at *
 generalize natW ((chP k a r).den-1)=Y2 at *
 generalize decide ((chP k a r).num<0)=Y1 at *
 generalize natW q.num.natAbs=Z0 at *
 generalize natW (q.den-1)=Z2 at *
 generalize decide (q.num<0)=Z1 at *
 refine A00 ?_;try with_reducible exact tt
 refine CallS.pu (hl) (R0 ?_);try with_reducible exact tt
 refine CallS.pu (hch) (R0 ?_);try with_reducible exact tt
 refine A00 ?_;try with_reducible exact tt
 refine CallS.pu (hdv) (R0 ?_);try with_reducible exact tt
 refine A00 ?_;try with_reducible exact tt
 refine CallS.nX (hon) (R0 ?_);try with_reducible exact tt
theorem o_166 (s o:St):Eqn Tryz.prog o_hn [.d (.agg (stD s)),.p 0 0] [SO o] (.mp 1) [SO o,spO [((s.1,s.2.1,s.2.2 || o.2.2),1)]]:=by
 have hsu:=o_13j (s.1,s.2.1,s.2.2 || o.2.2)
 refine Eqn.gen [0,2] o_hp (by simp) (by simp) (by rfl) (by decide) (by simp) (by simp [spO,SO]) ?_
 obtain ⟨s1,s2,s3⟩:=s
 obtain ⟨o1,o2,o3⟩:=o
 refine cc (c':=?z266) ?_ ?_
 case refine_1=>cbv<;>exact rfl
 try simp only [spO,stD,SO] at hsu ⊢
 generalize spD rcD _=L at *
 cases s3
 ·simp only [Bool.false_or] at hsu
  refine A00 ?_;try with_reducible exact tt
  refine CallS.nX (hsu) (R0 ?_);try with_reducible exact tt
 ·simp only [Bool.true_or] at hsu
  refine A00 ?_;try with_reducible exact tt
  refine CallS.nX (hsu) (R0 ?_);try with_reducible exact tt
end
section
open Go.RowKit
theorem o_167 {P P':St→Prop} {next:St→Sp} (hn:∀s,P s→kyQ P' (nzQ (next s))) {l:Sp} (h:kyQ P l):kyQ P' (timesQ next l):=by
 have key:∀(k out:Sp),kyQ P' out→kyQ P k→kyQ P' (k.foldl (fun out a=>innQ a.2 out (atQ (next a.1))) out):=by
  intro k
  induction k with
  | nil=>intro out h _;exact h
  | cons a k ih =>
   intro out ho hk
   refine ih _ (o_15d ho fun p hp=>hn _ (hk a (by simp)) p ((o_12v _).mem_iff.1 hp)) fun p hp=>hk p (by simp [hp])
 exact key _ _ (fun p hp=>by cases hp) (ky_at h)
def clQ (top k a:Nat) (s:St):Nat→Sp
 | 0=>[(s,1)]
 | r+1=>timesQ (stepQ top (ratC k a r)) (clQ top k a s r)
def fullQ (f:Bool) (s:St):Sp:=[((s.1,s.2.1,s.2.2 || f),1)]
def mgQ (top k a:Nat) (s o:St):Sp:=timesQ (fullQ o.2.2) (clQ top k a s o.1)
theorem cl_uq {top k a:Nat} (s:St):∀r,Uq (clQ top k a s r)
 | 0=>by simp [clQ,Uq]
 | r+1=>o_130 _ _
theorem o_168 {top k a:Nat} (s:St):∀r,exQ (fun _=>1) (clQ top k a s r)=1
 | 0=>by simp only [clQ,exQ];grind
 | r+1=>by
  show exQ (fun _=>1) (timesQ _ (clQ top k a s r))=1
  rw [o_131]
  have:(fun t=>exQ (fun _=>(1:Rat)) (stepQ top (ratC k a r) t))=fun _=>1:=by
   funext t
   rw [(o_133 (fun _=>1) top _ t).2]
   split
   ·rfl
   ·grind
  rw [this,o_168 s r]
theorem cl_nz {top k a:Nat} (s:St) (r:Nat):nzQ (clQ top k a s r)≠[]:=by
 intro h
 have h2:=o_168 (top:=top) (k:=k) (a:=a) s r
 have h3:=ex_nz (fun _=>(1:Rat)) (clQ top k a s r)
 rw [show (clQ top k a s r).filter (fun p=>decide (p.2≠0))=nzQ (clQ top k a s r) from rfl,h] at h3
 rw [h2] at h3
 exact absurd h3 (by decide)
theorem o_169 {top k a:Nat} {s:St} (hs:okQ top s):∀r,kyQ (reach top s.1 r) (clQ top k a s r)
 | 0=>fun p hp=>by
  simp [clQ] at hp;subst hp
  obtain ⟨a,b,f⟩:=s
  obtain ⟨h1,h2,h3⟩:=hs
  simp only at h1 h2 h3
  subst h2
  cases f with
  | false=>exact .inr ⟨rfl,Nat.le_refl _,Nat.le_refl _,h1⟩
  | true=>left;rw [h3 rfl]
 | r+1=>o_15e (fun t ht=>o_15f ht) (o_169 hs r)
theorem o_16a {k a w:Nat} (h:GoodS k a w) (r:Nat):(∀x,x<topC w→0≤ratC k a r x)∧(∀x,x<topC w→ratC k a r x≤1):=by
 have h15:topC w≤15:=by have:=Nat.pow_le_pow_right (n:=2) (by omega) h.2.2;unfold topC;omega
 obtain ⟨G,hG,-,-,hc⟩:=o_162 h
 exact ⟨fun x hx=>(gr_01 hG (hc r x (by omega))).1,fun x hx=>(gr_01 hG (hc r x (by omega))).2⟩
theorem cl_ok {k a w:Nat} (h:GoodS k a w) {s:St} (hs:okQ (topC w) s):∀r,oklQ (topC w) (clQ (topC w) k a s r)
 | 0=>fun p hp=>by
  simp [clQ] at hp;subst hp
  exact ⟨hs,(by decide:(0:Rat)≤1)⟩
 | r+1=>o_138 (fun s hs=>o_139 (o_16a h r).1 (o_16a h r).2 hs) (cl_ok h hs r)
theorem cl_up {k a w:Nat} (h:GoodS k a w) {s:St} (hs:okQ (topC w) s):∀r,r≤topC w→kyQ (fun t=>okQ (topC w) t∧r≤t.1) (clQ (topC w) k a s r)
 | 0,_=>fun p hp=>by
  simp [clQ] at hp;subst hp
  exact ⟨hs,Nat.zero_le _⟩
 | r+1,hr=>by
  have h15:topC w≤15:=by have:=Nat.pow_le_pow_right (n:=2) (by omega) h.2.2;unfold topC;omega
  refine o_167 (P:=fun t=>okQ (topC w) t∧r≤t.1) (fun t ht p hp=>?_) (cl_up h hs r (by omega))
  have hp1:p∈stepQ (topC w) (ratC k a r) t:=(List.mem_filter.1 hp).1
  have hp2:p.2≠0:=by have:=(List.mem_filter.1 hp).2;simpa using this
  refine ⟨(o_139 (o_16a h r).1 (o_16a h r).2 ht.1 p hp1).1,?_⟩
  obtain ⟨u1,u2⟩:=ht
  rcases Nat.lt_or_ge r t.1 with hlt | hge
  ·unfold stepQ at hp1
   split at hp1
   ·simp at hp1;subst hp1;exact hlt
   ·unfold eitQ at hp1
    rcases o_134 hp1 with hp1 | rfl
    ·rcases o_134 hp1 with hp1 | rfl
     ·cases hp1
     ·show r+1≤t.1+1;omega
    ·exact hlt
  ·have e:t.1=r:=by omega
   have hne:¬t.1=topC w:=by omega
   have hc1:ratC k a r t.1=1:=by
    unfold ratC
    rw [e,if_pos (Nat.le_refl _)]
    have:=o_161 h (x:=r) (by omega)
    grind
   unfold stepQ at hp1
   rw [if_neg hne,hc1] at hp1
   have hne2:¬(t.1+1,t.2)=t:=fun he=>by have:=congrArg (fun x:St=>x.1) he;simp at this
   have e2:eitQ 1 (t.1+1,t.2) t=[((t.1+1,t.2),1),(t,0)]:=by
    unfold eitQ addQ
    have hne3:¬t=(t.1+1,t.2):=fun e=>hne2 e.symm
    have z1:(0:Rat)+1=1:=Rat.zero_add 1
    have z2:(0:Rat)+(1-1)=0:=by grind
    simp only [setQ,getQ,if_neg hne3,z1,z2]
   rw [e2] at hp1
   rcases List.mem_cons.1 hp1 with rfl | hp1
   ·show r+1≤t.1+1;omega
   ·rcases List.mem_cons.1 hp1 with rfl | hp1
    ·exact absurd rfl hp2
    ·cases hp1
theorem cl_gr {k a w G:Nat} (h:GoodS k a w) (hc:∀r x,x≤15→Gr G 1 (ratC k a r x)) {s:St} (hs:okQ (topC w) s):∀r,r≤15→∀p∈clQ (topC w) k a s r,Gr (G^r) (80^r) p.2
 | 0,_=>fun p hp=>by
  simp [clQ] at hp;subst hp
  exact Gr.one _
 | r+1,hn=>by
  have h15:topC w≤15:=by have:=Nat.pow_le_pow_right (n:=2) (by omega) h.2.2;unfold topC;omega
  have ih:=cl_gr h hc hs r (by omega)
  have hl:=o_15h (cl_uq s r) (o_169 (k:=k) (a:=a) hs r)
  have hA:(atQ (clQ (topC w) k a s r)).length≤40:=Nat.le_trans (o_158 _) (by omega)
  have hm:∀p∈atQ (clQ (topC w) k a s r),p∈clQ (topC w) k a s r:=fun p hp=>(List.mem_filter.1 ((o_12v _).mem_iff.1 hp)).1
  have:=o_155 (D:=G^r) (E:=G) (B:=80^r) (J:=2) (next:=stepQ (topC w) (ratC k a r)) (A:=atQ (clQ (topC w) k a s r)) (fun p hp=>ih p (hm p hp)) (fun p hp=>⟨o_159 (fun x hx=>hc r x (by omega)) p.1 (cl_ok h hs r p (hm p hp)).1.1,Nat.le_trans (o_158 _) (o_157 _ _ _)⟩) _ (Nat.le_refl _)
  rw [o_152] at this
  intro p hp
  rw [Nat.pow_succ]
  refine (this p hp).le ?_
  rw [Nat.pow_succ,Nat.mul_comm (80^r) 80]
  exact Nat.mul_le_mul_right _ (by omega)
end
section
open Go.RowKit
def SQ (top:Nat) (c g:Nat→Rat) (k:Nat):Rat:=if k=top then g top else c k*g (k+1)+(1-c k)*g k
def SnQ (top:Nat) (c:Nat→Rat):Nat→(Nat→Rat)→Nat→Rat
 | 0,g=>g
 | n+1,g=>SnQ top c n (SQ top c g)
def WQ (top k a:Nat):Nat→(Nat→Rat)→Nat→Rat
 | 0,g=>g
 | b+1,g=>WQ top k a b (SQ top (ratC k a b) g)
def plQ (g:Nat→Rat) (s:St):Rat:=g s.1
theorem o_16b (top:Nat) (c g:Nat→Rat) (s:St):exQ (plQ g) (stepQ top c s)=plQ (SQ top c g) s:=by
 rw [(o_133 (plQ g) top c s).2]
 unfold plQ SQ
 split
 ·rename_i e;rw [e]
 ·rfl
theorem o_16c (top:Nat) (c g:Nat→Rat) (l:Sp):exQ (plQ g) (timesQ (stepQ top c) l)=exQ (plQ (SQ top c g)) l:=by
 rw [o_131]
 congr 1
 funext s
 exact o_16b top c g s
theorem of_pl (top:Nat) (c:Nat→Rat) (s:St):∀(n:Nat) (g:Nat→Rat),exQ (plQ g) (ofQ (stepQ top c) s n)=SnQ top c n g s.1
 | 0,g=>by simp only [ofQ,exQ,SnQ,plQ];grind
 | n+1,g=>by
  show exQ (plQ g) (timesQ (stepQ top c) (ofQ (stepQ top c) s n))=_
  rw [o_16c,of_pl top c s n];rfl
theorem o_16d (top:Nat) (c:Nat→Rat):∀(n m:Nat) (g:Nat→Rat),SnQ top c n (SnQ top c m g)=SnQ top c (m+n) g
 | n,0,g=>by rw [Nat.zero_add];rfl
 | n,m+1,g=>by
  show SnQ top c n (SnQ top c m (SQ top c g))=_
  rw [o_16d top c n m,show m+1+n=m+n+1 by omega];rfl
theorem cl_pl (top k a:Nat) (s:St):∀(b:Nat) (g:Nat→Rat),exQ (plQ g) (clQ top k a s b)=WQ top k a b g s.1
 | 0,g=>by simp only [clQ,exQ,WQ,plQ];grind
 | b+1,g=>by
  show exQ (plQ g) (timesQ _ (clQ top k a s b))=_
  rw [o_16c,cl_pl top k a s b];rfl
theorem mg_pl (top k a:Nat) (s o:St) (g:Nat→Rat):exQ (plQ g) (mgQ top k a s o)=WQ top k a o.1 g s.1:=by
 unfold mgQ
 rw [o_131,←cl_pl]
 congr 1
 funext t
 unfold fullQ plQ
 simp only [exQ];grind
theorem o_16e (top:Nat) (c g g':Nat→Rat) (u v:Rat):SQ top c (fun k=>u*g k+v*g' k)=fun k=>u*SQ top c g k+v*SQ top c g' k:=by
 funext k
 unfold SQ
 split
 ·rfl
 ·grind
theorem o_16f (top k a:Nat) (u v:Rat):∀(b:Nat) (g g':Nat→Rat),WQ top k a b (fun x=>u*g x+v*g' x)=fun x=>u*WQ top k a b g x+v*WQ top k a b g' x
 | 0,g,g'=>rfl
 | b+1,g,g'=>by
  show WQ top k a b (SQ top (ratC k a b) (fun x=>u*g x+v*g' x))=_
  rw [o_16e,o_16f top k a u v b];rfl
theorem o_16g {k a w b:Nat} (h:GoodS k a w) (hb:b≤15):ratC k a b b=1:=by
 unfold ratC
 rw [if_pos (Nat.le_refl _)]
 have:=o_161 h hb
 grind
theorem wq_eq {k a w:Nat} (h:GoodS k a w):∀(b:Nat) (g g':Nat→Rat),b≤topC w→(∀x,b≤x→x≤topC w→g x=g' x)→∀x,x≤topC w→WQ (topC w) k a b g x=WQ (topC w) k a b g' x
 | 0,g,g',_,hg,x,hx=>hg x (Nat.zero_le _) hx
 | b+1,g,g',hb,hg,x,hx=>by
  have h15:topC w≤15:=by have:=Nat.pow_le_pow_right (n:=2) (by omega) h.2.2;unfold topC;omega
  refine wq_eq h b _ _ (by omega) (fun y h1 h2=>?_) x hx
  unfold SQ
  split
  ·exact hg _ hb (Nat.le_refl _)
  ·rename_i hne
   rw [hg (y+1) (by omega) (by omega)]
   rcases Nat.lt_or_ge b y with h3 | h3
   ·rw [hg y h3 h2]
   ·have:y=b:=by omega
    subst this
    rw [o_16g h (by omega)]
    grind
theorem o_16h {k a w:Nat} (h:GoodS k a w) (g:Nat→Rat) (x:Nat) (hx:x≤topC w) (b:Nat) (hb:b≤topC w):SQ (topC w) (chP k a) (fun b=>WQ (topC w) k a b g x) b=WQ (topC w) k a b (SQ (topC w) (chP k a) g) x:=by
 have h15:topC w≤15:=by have:=Nat.pow_le_pow_right (n:=2) (by omega) h.2.2;unfold topC;omega
 by_cases e:b=topC w
 ·have hs:SQ (topC w) (chP k a) (fun b=>WQ (topC w) k a b g x) b=WQ (topC w) k a b g x:=by
   unfold SQ
   rw [if_pos e]
   exact congrArg (fun z=>WQ (topC w) k a z g x) e.symm
  rw [hs]
  refine wq_eq h b _ _ hb (fun y h1 h2=>?_) x hx
  have:y=topC w:=by omega
  unfold SQ
  rw [if_pos this,this]
 ·have hs:SQ (topC w) (chP k a) (fun b=>WQ (topC w) k a b g x) b=chP k a b*WQ (topC w) k a b (SQ (topC w) (ratC k a b) g) x+(1-chP k a b)*WQ (topC w) k a b g x:=by
   show (if b=topC w then _ else _)=_
   rw [if_neg e];rfl
  rw [hs]
  have hl:=congrFun (o_16f (topC w) k a (chP k a b) (1-chP k a b) b (SQ (topC w) (ratC k a b) g) g) x
  rw [←hl]
  refine wq_eq h b _ _ hb (fun y h1 h2=>?_) x hx
  show chP k a b*SQ (topC w) (ratC k a b) g y+(1-chP k a b)*g y=SQ (topC w) (chP k a) g y
  have hne:=o_161 h (x:=b) (by omega)
  unfold SQ
  split
  ·rename_i hy;rw [hy];grind
  ·have:ratC k a b y=chP k a y/chP k a b:=by unfold ratC;rw [if_pos h1]
   rw [this]
   have h5:chP k a b*(chP k a y/chP k a b)=chP k a y:=by grind
   grind
theorem ex_eq {top:Nat} {g h:St→Rat} (hgh:∀s,s.1≤top→g s=h s):∀{l:Sp},(∀p∈l,p.1.1≤top)→exQ g l=exQ h l
 | [],_=>rfl
 | p::l,hl=>by
  simp only [exQ]
  rw [hgh p.1 (hl p (by simp)),ex_eq hgh (l:=l) fun q hq=>hl q (by simp [hq])]
theorem of_w {k a w:Nat} (h:GoodS k a w) (x:Nat) (hx:x≤topC w):∀(m:Nat) (g:Nat→Rat),exQ (fun s=>WQ (topC w) k a s.1 g x) (ofQ (stepQ (topC w) (chP k a)) (0,0,false) m)=SnQ (topC w) (chP k a) m g x
 | 0,g=>by simp only [ofQ,exQ,SnQ,WQ];grind
 | m+1,g=>by
  obtain ⟨c0,c1⟩:=o_15k h
  have hok:=ok_of c0 c1 (s:=(0,0,false)) ⟨Nat.zero_le _,rfl,fun h=>by cases h⟩ m
  show exQ (plQ (fun b=>WQ (topC w) k a b g x)) (timesQ _ (ofQ (stepQ (topC w) (chP k a)) (0,0,false) m))=_
  rw [o_16c]
  show exQ (fun s:St=>SQ (topC w) (chP k a) (fun b=>WQ (topC w) k a b g x) s.1) _=_
  rw [ex_eq (top:=topC w) (h:=fun s=>WQ (topC w) k a s.1 (SQ (topC w) (chP k a) g) x) (fun s hs=>o_16h h g x hx s.1 hs) (fun p hp=>(hok p hp).1.1)]
  rw [of_w h x hx m];rfl
def mrgdQ (top k a:Nat) (A B:Sp):Sp:=A.foldl (fun out x=>B.foldl (fun out y=>innQ (x.2*y.2) out (atQ (mgQ top k a x.1 y.1))) out) []
theorem o_16i (g:St→Rat) (top k a:Nat) (x:St×Rat):∀(B out:Sp),Uq out→Uq (B.foldl (fun out y=>innQ (x.2*y.2) out (atQ (mgQ top k a x.1 y.1))) out)∧exQ g (B.foldl (fun out y=>innQ (x.2*y.2) out (atQ (mgQ top k a x.1 y.1))) out)=exQ g out+x.2*exQ (fun t=>exQ g (mgQ top k a x.1 t)) B
 | [],out,h=>⟨h,by simp only [List.foldl_nil,exQ];grind⟩
 | y::B,out,h=>by
  obtain ⟨h0,h3⟩:=o_12y g (x.2*y.2) (atQ (mgQ top k a x.1 y.1)) out h
  obtain ⟨h1,h2⟩:=o_16i g top k a x B _ h0
  refine ⟨h1,?_⟩
  rw [List.foldl_cons,h2,h3,ex_at]
  simp only [exQ];grind
theorem o_16j (g:St→Rat) (top k a:Nat) (B:Sp):∀(A out:Sp),Uq out→Uq (A.foldl (fun out x=>B.foldl (fun out y=>innQ (x.2*y.2) out (atQ (mgQ top k a x.1 y.1))) out) out)∧exQ g (A.foldl (fun out x=>B.foldl (fun out y=>innQ (x.2*y.2) out (atQ (mgQ top k a x.1 y.1))) out) out)=exQ g out+exQ (fun s=>exQ (fun t=>exQ g (mgQ top k a s t)) B) A
 | [],out,h=>⟨h,by simp only [List.foldl_nil,exQ];grind⟩
 | x::A,out,h=>by
  obtain ⟨h0,h3⟩:=o_16i g top k a x B out h
  obtain ⟨h1,h2⟩:=o_16j g top k a B A _ h0
  refine ⟨h1,?_⟩
  rw [List.foldl_cons,h2,h3]
  simp only [exQ];grind
theorem o_16k {k a w:Nat} (h:GoodS k a w) (n m:Nat) (g:Nat→Rat):exQ (plQ g) (mrgdQ (topC w) k a (atQ (ofQ (stepQ (topC w) (chP k a)) (0,0,false) n)) (atQ (ofQ (stepQ (topC w) (chP k a)) (0,0,false) m)))=exQ (plQ g) (ofQ (stepQ (topC w) (chP k a)) (0,0,false) (n+m)):=by
 obtain ⟨c0,c1⟩:=o_15k h
 have hok:=ok_of c0 c1 (s:=(0,0,false)) ⟨Nat.zero_le _,rfl,fun h=>by cases h⟩ n
 unfold mrgdQ
 rw [(o_16j (plQ g) (topC w) k a _ _ [] (by simp [Uq])).2,ex_at]
 have e0:exQ (plQ g) []=0:=rfl
 rw [e0]
 rw [ex_eq (top:=topC w) (h:=plQ (SnQ (topC w) (chP k a) m g)) (fun s hs=>?_) (fun p hp=>(hok p hp).1.1)]
 ·rw [of_pl,of_pl,o_16d,Nat.add_comm m n];grind
 ·rw [ex_at]
  have:(fun t=>exQ (plQ g) (mgQ (topC w) k a s t))=fun t:St=>WQ (topC w) k a t.1 g s.1:=by
   funext t
   exact mg_pl _ _ _ _ _ _
  rw [this]
  exact of_w h s.1 hs m g
end
section
open Go.RowKit
theorem o_16l (k a:Int) (w:Nat) (hw:w≤10):Eqn Tryz.prog o_8s [.d (.agg [.int .i64 k,.int .i64 a,.int .i64 w])] [] (.d (.int .i64 (topC w:Nat))) []:=by
 refine Eqn.pure o_8u Plain.ok ?_
 have h1:=o_xj w (by omega)
 have h2:p2 w≤1024:=Nat.pow_le_pow_right (n:=2) (by omega) hw
 have h3:=o_xh w
 have e1:IntKind.i64.wrap ((p2 w:Int)-1)=((topC w:Nat):Int):=by
  rw [w64 (by omega) (by omega),show topC w=p2 w-1 from rfl];omega
 generalize p2 w=W at *
 generalize topC w=TP at *
 refine cc (c':=?z267) ?_ ?_
 case refine_1=>cbv<;>exact rfl
 refine A11 e1 h1 ?_;try with_reducible exact tt
theorem o_16m (e:Nat) (he:e≤100):Eqn Tryz.prog o_by [.d (.int .i64 e)] [] (.d (qD3 1 0 (2^e))) []:=by
 refine Eqn.pure o_c0 Plain.ok ?_
 have h1:=o_114 1 (by decide)
 have h2:=o_106 2 (by decide)
 have h3:=o_121 2 e (by omega) (fun i hi=>sizeB (E:=i+1) (Nat.pow_lt_pow_right (by decide) (by omega)) (by omega)) (by decide)
 have h4:=o_11l 1 0 (2^e)
 refine cc (c':=?z268) ?_ ?_
 case refine_1=>cbv<;>exact rfl
 try simp only [zW,qD3] at h1 h4 ⊢
 generalize 2^e=E at *
 generalize qD1:nD E=D1 at *
 obtain ⟨nD1,lD1,rfl⟩:∃n l,D1=D.sl n l:=⟨_,_,qD1.symm⟩
 clear qD1
 generalize qD2:nD 1=D2 at *
 obtain ⟨nD2,lD2,rfl⟩:∃n l,D2=D.sl n l:=⟨_,_,qD2.symm⟩
 clear qD2
 generalize qD3:nD 0=D3 at *
 obtain ⟨nD3,lD3,rfl⟩:∃n l,D3=D.sl n l:=⟨_,_,qD3.symm⟩
 clear qD3
 generalize qD4:nD 2=D4 at *
 obtain ⟨nD4,lD4,rfl⟩:∃n l,D4=D.sl n l:=⟨_,_,qD4.symm⟩
 clear qD4
 have e1:((1:Nat):Int)=1:=rfl
 have e2:((2:Nat):Int)=2:=rfl
 simp only [e1,e2] at h1 h2
 refine A04 h1 h2 h3 h4 ?_;try with_reducible exact tt
abbrev T3:=Nat×Nat×Nat
def qT (t:T3):D:=qD3 t.1 t.2.1 t.2.2
def vT3 (t:T3):Rat:=qval t.1 t.2.1 t.2.2
def chT (k a j:Nat):T3:=if k=1 then (a^j,0,(a+1)^j) else (1,0,2^expOf k a j)
theorem o_16n {k a w j:Nat} (h:GoodS k a w) (hj:j<topC w):Eqn Tryz.prog o_94 [.d (.agg [.int .i64 k,.int .i64 a,.int .i64 w]),.d (.int .i64 j)] [] (.d (qT (chT k a j))) []:=by
 refine Eqn.pure o_96 Plain.ok ?_
 have h15:topC w≤15:=by have:=Nat.pow_le_pow_right (n:=2) (by omega) h.2.2;unfold topC;omega
 have ht:=o_16l k a w (by have:=h.2.2;omega)
 have hj1:¬((topC w:Nat):Int)≤j:=by omega
 have hj2:¬topC w≤j:=by omega
 generalize hTP:topC w=TP at *
 unfold chT
 by_cases hk:k=1
 ·have ha:=gs_a h hk
  subst hk
  have hc:=o_15r a j (by omega) (by omega)
  have e1:((1:Nat):Int)=1:=rfl
  refine cc (c':=?z269) ?_ ?_
  case refine_1=>cbv<;>exact rfl
  try simp only [qT,if_true,qD3,e1] at hc ht ⊢
  generalize (a+1)^j=x at *
  generalize a^j=y at *
  generalize qD1:nD x=D1 at *
  obtain ⟨nD1,lD1,rfl⟩:∃n l,D1=D.sl n l:=⟨_,_,qD1.symm⟩
  clear qD1
  generalize qD2:nD y=D2 at *
  obtain ⟨nD2,lD2,rfl⟩:∃n l,D2=D.sl n l:=⟨_,_,qD2.symm⟩
  clear qD2
  generalize qD3:nD 0=D3 at *
  obtain ⟨nD3,lD3,rfl⟩:∃n l,D3=D.sl n l:=⟨_,_,qD3.symm⟩
  clear qD3
  refine A12 (fs hj1 hj2) ht hc ?_;try with_reducible exact tt
 ·have he:=o_z1 h hk (x:=j) (by omega)
  have hh:=o_16m (expOf k a j) (by omega)
  rw [if_neg hk]
  have hk':¬(k:Int)=1:=by omega
  by_cases hk2:k=2
  ·have hx:=o_xk a j (by have:=h.1;omega) (by omega)
   have ee:expOf k a j=j/p2 a:=by unfold expOf;rw [if_pos hk2];rfl
   rw [←ee] at hx
   generalize expOf k a j=e at *
   subst hk2
   have e2:((2:Nat):Int)=2:=rfl
   refine cc (c':=?z270) ?_ ?_
   case refine_1=>cbv<;>exact rfl
   try simp only [qT,qD3,e2] at hh ht ⊢
   generalize 2^e=x at *
   generalize qD1:nD x=D1 at *
   obtain ⟨nD1,lD1,rfl⟩:∃n l,D1=D.sl n l:=⟨_,_,qD1.symm⟩
   clear qD1
   generalize qD2:nD 1=D2 at *
   obtain ⟨nD2,lD2,rfl⟩:∃n l,D2=D.sl n l:=⟨_,_,qD2.symm⟩
   clear qD2
   generalize qD3:nD 0=D3 at *
   obtain ⟨nD3,lD3,rfl⟩:∃n l,D3=D.sl n l:=⟨_,_,qD3.symm⟩
   clear qD3
   refine A13 (fs hj1 hj2) ht hx hh ?_;try with_reducible exact tt
  ·have hk2':¬(k:Int)=2:=by omega
   have hx:=o_126 a j (by have:=h.1;omega) (by have:=h.1;omega) (by omega)
   have ee:expOf k a j=(placeY a j).shift:=by unfold expOf;rw [if_neg hk2]
   rw [←ee] at hx
   generalize expOf k a j=e at *
   refine cc (c':=?z271) ?_ ?_
   case refine_1=>cbv<;>exact rfl
   try simp only [qT,qD3] at hh ht ⊢
   generalize (placeY a j).x=px at *
   generalize (placeY a j).value=pv at *
   generalize (placeY a j).reply=pr at *
   generalize 2^e=x at *
   generalize qD1:nD x=D1 at *
   obtain ⟨nD1,lD1,rfl⟩:∃n l,D1=D.sl n l:=⟨_,_,qD1.symm⟩
   clear qD1
   generalize qD2:nD 1=D2 at *
   obtain ⟨nD2,lD2,rfl⟩:∃n l,D2=D.sl n l:=⟨_,_,qD2.symm⟩
   clear qD2
   generalize qD3:nD 0=D3 at *
   obtain ⟨nD3,lD3,rfl⟩:∃n l,D3=D.sl n l:=⟨_,_,qD3.symm⟩
   clear qD3
   generalize qD4:nD pv=D4 at *
   obtain ⟨nD4,lD4,rfl⟩:∃n l,D4=D.sl n l:=⟨_,_,qD4.symm⟩
   clear qD4
   generalize qD5:nD pr=D5 at *
   obtain ⟨nD5,lD5,rfl⟩:∃n l,D5=D.sl n l:=⟨_,_,qD5.symm⟩
   clear qD5
   refine A13 (fs hj1 (fs hj2 (fs hk (fs hk' (fs hk2 hk2'))))) ht hx hh ?_;try with_reducible exact tt
end
section
open Go.RowKit
theorem o_16o (f:Bool) (G:Nat) (s:St):NextOK (fullQ f) G s where
 uq:=by simp [fullQ,Uq]
 nz:=by simp [fullQ,nzQ]
 len:=by simp [fullQ]
 gr:=fun p hp=>by simp [fullQ] at hp;subst hp;exact Gr.one G
theorem o_16p {k a w G:Nat} (h:GoodS k a w) (hc:∀r x,x≤15→Gr G 1 (ratC k a r x)) (r:Nat) (s:St) (hs:s.1≤topC w):NextOK (stepQ (topC w) (ratC k a r)) G s where
 uq:=(o_133 (fun _=>0) _ _ s).1
 nz:=nz_ne s
 len:=o_157 _ _ _
 gr:=o_159 (fun x hx=>hc r x (by
  have:topC w≤15:=by have:=Nat.pow_le_pow_right (n:=2) (by omega) h.2.2;unfold topC;omega
  omega)) s hs
set_option maxHeartbeats 4000000 in
theorem o_16q {k a w:Nat} (h:GoodS k a w) (s o:St) (hs:okQ (topC w) s) (ho:o.1≤topC w) (h7:o.1≤15):Eqn Tryz.prog o_eh [.d (parD k a w),.d (.agg (stD s)),.d (.agg (stD o))] [] (.mp 0) [spO (mgQ (topC w) k a s o)]:=by
 have h15:topC w≤15:=by have:=Nat.pow_le_pow_right (n:=2) (by omega) h.2.2;unfold topC;omega
 obtain ⟨G,hG,hG63,-,hc⟩:=o_162 h
 have hl:=o_13q k a w
 have hsu:=o_13j s
 have hfin:Eqn Tryz.prog o_a1 [.mp 0,.fn (.func o_hn) [.p 1 0]] [spO (clQ (topC w) k a s o.1),SO o] (.mp 2) [spO (clQ (topC w) k a s o.1),SO o,spO (mgQ (topC w) k a s o)]:=by
  have hl:=o_15h (cl_uq s o.1) (o_169 (k:=k) (a:=a) hs o.1)
  exact o_15l (by decide) (fun _=>True) (clQ (topC w) k a s o.1) G (G^o.1) (80^o.1) (cl_uq s _) (fun _ _=>trivial) (cl_nz s _) (Nat.le_trans (List.length_filter_le _ _) (Nat.le_trans hl (by omega))) (Nat.le_trans hl (by omega)) (Nat.pow_pos hG) (Nat.pow_pos (by decide)) (cl_gr h hc hs _ (by omega)) hG (fun t _=>⟨o_16o _ _ _,o_166 t o⟩) (o_15j hG63 (by omega)).1
 have hro:∀r,r<o.1→Eqn Tryz.prog o_a1 [.mp 0,.fn (.func o_hh) [.p 1 0,.p 2 0]] [spO (clQ (topC w) k a s r),PO k a w,RO (chP k a r)] (.mp 3) [spO (clQ (topC w) k a s r),PO k a w,RO (chP k a r),spO (clQ (topC w) k a s (r+1))]:=fun r hr=>by
  have hl:=o_15h (cl_uq s r) (o_169 (k:=k) (a:=a) hs r)
  exact o_15m (by decide) (by decide) (fun t=>okQ (topC w) t∧r≤t.1) (clQ (topC w) k a s r) G (G^r) (80^r) (cl_uq s _) (fun p hp=>cl_up h hs r (by omega) p (List.mem_filter.1 hp).1) (cl_nz s _) (Nat.le_trans (List.length_filter_le _ _) (Nat.le_trans hl (by omega))) (Nat.le_trans hl (by omega)) (Nat.pow_pos hG) (Nat.pow_pos (by decide)) (cl_gr h hc hs _ (by omega)) hG (fun t ht=>⟨o_16p h hc r t ht.1.1,o_165 h t ht.1.1 r ht.2 (by omega)⟩) (o_15j hG63 (by omega)).1
 have hch:∀r,r<o.1→Eqn Tryz.prog o_dy [.d (parD k a w),.d (.int .i64 r)] [] (.tup [.d (rD (chP k a r)),.d (.int .i64 0)]) []:=fun r hr=>o_13o h (by unfold topC at ho;omega)
 have hd0:clQ (topC w) k a s 0=[(s,1)]:=rfl
 rw [←hd0] at hsu
 obtain ⟨R,hR⟩:∃R,R=mgQ (topC w) k a s o:=⟨_,rfl⟩
 rw [←hR] at hfin ⊢
 obtain ⟨o1,o2,o3⟩:=o
 simp only at ho h7 hfin hro hch
 generalize topC w=W at *
 refine Eqn.gen [4] o_ej (by simp) (by simp) (by rfl) (by decide) (by simp) (by simp [spO]) ?_
 refine cc (c':=?z272) ?_ ?_
 case refine_1=>cbv<;>exact rfl
 try simp only [spO,stD,parD,PO,RO,SO,rD] at hl hsu hfin hro hch ⊢
 refine A00 ?_;try with_reducible exact tt
 refine CallS.nX (hsu) (R0 ?_);try with_reducible exact tt
 refine AW.loopG (α:=Nat) (fun i=>setS (List.replicate 32 .junk) [(3,.p 0 0),(5,.p 2 0),(7,.mp 3),(14,.d (.int .i64 o1)),(15,.d (.int .i64 (i:Nat)))]) (fun i=>[some ⟨62,[.d (.int .i64 k),.d (.int .i64 a),.d (.int .i64 w)]⟩,none,some ⟨64,[.d (.int .i64 o1),.d (.int .i64 o2),.d (.bool o3)]⟩,some ⟨1000391,(spD rcD (clQ W k a s i)).map .d⟩]) (fun i=>i≤o1) (fun i=>o1-i) 0 ?_ (Nat.zero_le _) ?_ ?_ ?_
 ·intro i hi;simp
 ·simp
 ·simp
 rintro i hi
 simp
 by_cases hi2:i<o1
 ·have hi3:(i:Int)<o1:=by omega
  have ew:IntKind.i64.wrap ((i:Int)+1)=((i+1:Nat):Int):=by rw [w64 (by omega) (by omega)];omega
  have ht:=hro i hi2
  have hci:=hch i hi2
  generalize natW (chP k a i).num.natAbs=Z0 at *
  generalize natW ((chP k a i).den-1)=Z2 at *
  generalize decide ((chP k a i).num<0)=Z1 at *
  refine A10 (fs hi2 hi3) ?_;try with_reducible exact tt
  refine CallS.pu (hl) (R0 ?_);try with_reducible exact tt
  refine CallS.pu (hci) (R0 ?_);try with_reducible exact tt
  refine A00 ?_;try with_reducible exact tt
  refine CallS.g [3,0,4] (ht) (R1 ew ?_);try with_reducible exact tt
  refine A10 ew ?_;try with_reducible exact tt
  refine ⟨i+1,3,5,by omega,by omega,by omega,?_,?_⟩
  ·simp [swT,swH,sw,Ob.sw,V.ren,V.rens]
  ·simp [swT,swH,sw,Ob.sw,V.ren,V.rens]
 ·have h2:i=o1:=by omega
  subst h2
  refine A00 ?_;try with_reducible exact tt
  refine CallS.g [3,2] (hfin) (R0 ?_);try with_reducible exact tt
  done
end
section
open Go.RowKit
def stsD (l:List St):List D:=l.flatMap stD
theorem o_16r (l:List St):(stsD l).length=l.length*3:=by
 unfold stsD
 induction l with
 | nil=>rfl
 | cons s l ih=>rw [List.flatMap_cons,List.length_append,ih];simp [stD];omega
theorem o_16s (l:List St) (i:Nat) (hi:i<l.length):((stsD l).drop (i*3)).take 3=[.int .i64 l[i].1,.int .i64 l[i].2.1,.bool l[i].2.2]:=o_11u (n:=3) (f:=stD) (fun _=>rfl) l i hi
theorem o_16t {k a w:Nat} (h:GoodR k a w) (l:List St) (hl:l.length≤1000000) (hw:∀s∈l,WellR k a w s.1 s.2.1 s.2.2):Eqn Tryz.prog o_he [.d (.sl l.length (stsD l)),.fn (.func o_ee) [.p 0 0]] [PO k a w] (.d (.int .i64 (-1))) [PO k a w]:=by
 refine Eqn.gen [0] o_hg (by simp) (by simp) (by rfl) (by decide) (by simp) (by simp [PO]) ?_
 have hw1:∀i (hi:i<l.length),Eqn Tryz.prog o_ee [.d (.agg [.int .i64 l[i].1,.int .i64 l[i].2.1,.bool l[i].2.2]),.p 0 0] [PO k a w] (.d (.bool false)) [PO k a w]:=fun i hi=>o_15b h l[i] (hw _ (List.getElem_mem hi))
 have hlen:=o_16r l
 have hget:=o_16s l
 refine cc (c':=?z273) ?_ ?_
 case refine_1=>cbv<;>exact rfl
 try simp only [PO] at hw1 ⊢
 refine A00 ?_;try with_reducible exact tt
 refine AW.loopW (α:=Nat) (fun i=>setS (List.replicate 19 .junk) [(0,.d (.sl l.length (stsD l))),(1,.fn (.func o_ee) [.p 0 0]),(7,.d (.int .i64 l.length)),(8,.d (.int .i64 (i:Nat)))]) (fun i=>[some ⟨62,[.d (.int .i64 k),.d (.int .i64 a),.d (.int .i64 w)]⟩]) (fun i=>i≤l.length) (fun i=>l.length-i) 1 (fun _=>rfl) (by simp) 0 (Nat.zero_le _) ?_ ?_ ?_
 ·simp
 ·simp
 rintro i hi
 simp
 by_cases hi2:i<l.length
 ·have hi3:(i:Int)<l.length:=by omega
  have ew:IntKind.i64.wrap ((i:Int)+1)=((i+1:Nat):Int):=by rw [w64 (by omega) (by omega)];omega
  have h1:=hw1 i hi2
  have hg:=hget i hi2
  have hb6:i*3+3≤l.length*3:=by omega
  have hb7:i*3<l.length*3:=by omega
  refine A10 (fs hi2 (fs hi3 (fs hlen (fs hg (fs hb6 hb7))))) ?_;try with_reducible exact tt
  refine CallS.g [0] (h1) (R0 ?_);try with_reducible exact tt
  refine A10 ew ?_;try with_reducible exact tt
  exact ⟨i+1,by omega,by omega,Sub1.refl _⟩
 ·have h2:i=l.length:=by omega
  subst h2
  refine A00 ?_;try with_reducible exact tt
theorem o_16u {k a w:Nat} (h:GoodR k a w) (l:List St) (hl:l.length≤1000000) (hw:∀s∈l,WellR k a w s.1 s.2.1 s.2.2):Eqn Tryz.prog o_eb [.d (.sl l.length (stsD l)),.fn (.func o_ee) [.p 0 0]] [PO k a w] (.d (.bool false)) [PO k a w]:=by
 refine Eqn.gen [0] o_ed (by simp) (by simp) (by rfl) (by decide) (by simp) (by simp [PO]) ?_
 have hi:=o_16t h l hl hw
 refine cc (c':=?z274) ?_ ?_
 case refine_1=>cbv<;>exact rfl
 try simp only [PO] at hi ⊢
 refine A00 ?_;try with_reducible exact tt
 refine CallS.g [0] (hi) (R0 ?_);try with_reducible exact tt
theorem o_16v {k a w:Nat} (h:GoodR k a w) (l:List St) (hl:l.length≤1000000) (hw:∀s∈l,WellR k a w s.1 s.2.1 s.2.2):Eqn Tryz.prog o_9s [.d (parD k a w),.d (.sl l.length (stsD l))] [] (.d (.int .i64 0)) []:=by
 refine Eqn.pure o_9u Plain.ok ?_
 have hc:=o_zn h
 have hi:=o_16u h l hl hw
 refine cc (c':=?z275) ?_ ?_
 case refine_1=>cbv<;>exact rfl
 try simp only [PO,parD] at hc hi ⊢
 refine A00 ?_;try with_reducible exact tt
 refine CallS.pu (hc) (R0 ?_);try with_reducible exact tt
 refine A00 ?_;try with_reducible exact tt
 refine CallS.g [0] (hi) (R0 ?_);try with_reducible exact tt
 refine A00 ?_;try with_reducible exact tt
theorem o_16w {k a w:Nat} (h:GoodR k a w) (hk:k≠4) (hw4:w≤4) (l:List St) (hl:l.length≤1000000) (hw:∀s∈l,WellR k a w s.1 s.2.1 s.2.2):Eqn Tryz.prog o_9m [.d (parD k a w),.d (.sl l.length (stsD l))] [] (.d (.int .i64 0)) []:=by
 refine Eqn.pure o_9o Plain.ok ?_
 have h1:=o_16v h l hl hw
 have h2:=o_15c (a:=a) hk (show w≤10 by omega)
 have h16:2^w≤16:=Nat.pow_le_pow_right (n:=2) (by omega) hw4
 generalize 2^w=W at *
 have e1:IntKind.i64.wrap (4*(W:Int))=4*(W:Int):=w64 (by omega) (by omega)
 have e2:¬512<4*(W:Int):=by omega
 refine cc (c':=?z276) ?_ ?_
 case refine_1=>cbv<;>exact rfl
 try simp only [parD] at h1 h2 ⊢
 refine A00 ?_;try with_reducible exact tt
 refine CallS.pu (h1) (R0 ?_);try with_reducible exact tt
 refine A00 ?_;try with_reducible exact tt
 refine CallS.pu (h2) (R1 (fs e1 e2) ?_);try with_reducible exact tt
 refine A10 (fs e1 e2) ?_;try with_reducible exact tt
theorem o_16x {k a w:Nat} (h:GoodS k a w) (s o:St) (hs:okQ (topC w) s) (ho:o.1≤topC w) (h7:o.1≤15):Eqn Tryz.prog o_a4 [.d (parD k a w),.d (.agg (stD s)),.d (.agg (stD o))] [] (.mp 0) [spO (mgQ (topC w) k a s o)]:=by
 have hc:=o_16q h s o hs ho h7
 have hk4:¬(k:Int)=4:=by have:=h.1;omega
 have hk4':¬k=4:=by have:=h.1;omega
 generalize mgQ (topC w) k a s o=R at *
 refine Eqn.gen [3] o_a6 (by simp) (by simp) (by rfl) (by decide) (by simp) (by simp [spO]) ?_
 refine cc (c':=?z277) ?_ ?_
 case refine_1=>cbv<;>exact rfl
 try simp only [spO,stD,parD] at hc ⊢
 refine A10 (fs hk4 hk4') ?_;try with_reducible exact tt
 refine CallS.nX (hc) (R0 ?_);try with_reducible exact tt
end
section
open Go.RowKit
end
section
open Go.RowKit
theorem o_16y {top k i:Nat} {l:Sp} (hu:Uq l) (h:kyQ (reach top k i) l):l.length≤top+2:=by
 have h1:(l.map (·.1)).length≤((top,0,true)::(List.range (top+1)).map fun j=>(j,0,false):List St).length:=by
  refine List.Nodup.length_le_of_subset hu fun t ht=>?_
  obtain ⟨p,hp,rfl⟩:=List.mem_map.1 ht
  rcases h p hp with e | ⟨e,e1,e2,e3⟩
  ·rw [e];simp
  ·refine List.mem_cons_of_mem _ (List.mem_map.2 ⟨p.1.1,List.mem_range.2 (by omega),?_⟩)
   rw [←e]
 simpa using h1
theorem o_16z {G top:Nat} {c:Nat→Rat} (h7:top≤15) (h0:∀k,k<top→0≤c k) (h1:∀k,k<top→c k≤1) (hc:∀x,x<top→Gr G 1 (c x)) {s:St} (hs:okQ top s):∀n,∀p∈ofQ (stepQ top c) s n,Gr (G^n) (80^n) p.2
 | 0=>fun p hp=>by
  simp [ofQ] at hp;subst hp
  exact Gr.one _
 | n+1=>by
  have ih:=o_16z h7 h0 h1 hc hs n
  have hl:=o_16y (of_uq _ s n) (o_15g (c:=c) hs n)
  have hA:(atQ (ofQ (stepQ top c) s n)).length≤40:=Nat.le_trans (o_158 _) (by omega)
  have hm:∀p∈atQ (ofQ (stepQ top c) s n),p∈ofQ (stepQ top c) s n:=fun p hp=>(List.mem_filter.1 ((o_12v _).mem_iff.1 hp)).1
  have:=o_155 (D:=G^n) (E:=G) (B:=80^n) (J:=2) (next:=stepQ top c) (A:=atQ (ofQ (stepQ top c) s n)) (fun p hp=>ih p (hm p hp)) (fun p hp=>⟨o_159 hc p.1 (ok_of h0 h1 hs n p (hm p hp)).1.1,Nat.le_trans (o_158 _) (o_157 _ _ _)⟩) _ (Nat.le_refl _)
  rw [o_152] at this
  intro p hp
  rw [Nat.pow_succ]
  refine (this p hp).le ?_
  rw [Nat.pow_succ,Nat.mul_comm (80^n) 80]
  exact Nat.mul_le_mul_right _ (by omega)
theorem o_170 {G n:Nat} (hG:G≤2^63) (hn:n≤100):size (80*80^n*(G^n*G))≤100000∧size (80^n*G^n)≤100000:=by
 have h1:size G≤1:=o_p8 (Nat.lt_of_le_of_lt hG (by decide))
 have h2:size 80≤1:=o_p8 (by decide)
 have a1:=o_15i 80 h2 n
 have a2:=o_15i G h1 n
 have a3:=o_u7 (80*80^n) (G^n*G)
 have a4:=o_u7 80 (80^n)
 have a5:=o_u7 (G^n) G
 have a6:=o_u7 (80^n) (G^n)
 omega
end
section
open Go.RowKit
theorem o_171 {top:Nat} {t:St} (h:okQ top t):reach top 0 top t:=by
 obtain ⟨a,b,f⟩:=t
 obtain ⟨h1,h2,h3⟩:=h
 simp only at h1 h2 h3
 subst h2
 cases f with
 | false=>exact .inr ⟨rfl,Nat.zero_le _,by simp only;omega,h1⟩
 | true=>left;rw [h3 rfl]
theorem o_172 {top:Nat} {l:Sp} (hu:Uq l) (h:oklQ top l):l.length≤top+2:=o_16y hu (k:=0) (i:=top) fun p hp=>o_171 (h p hp).1
theorem mg_uq {top k a:Nat} (s o:St):Uq (mgQ top k a s o):=o_130 _ _
theorem o_173 {top k a:Nat} (s o:St):exQ (fun _=>1) (mgQ top k a s o)=1:=by
 unfold mgQ
 rw [o_131]
 have:(fun t=>exQ (fun _=>(1:Rat)) (fullQ o.2.2 t))=fun _=>1:=by
  funext t
  unfold fullQ
  simp only [exQ];grind
 rw [this,o_168]
theorem o_174 {l:Sp} (h2:exQ (fun _=>1) l=1):nzQ l≠[]:=by
 intro h
 have h3:=ex_nz (fun _=>(1:Rat)) l
 rw [show l.filter (fun p=>decide (p.2≠0))=nzQ l from rfl,h] at h3
 rw [h2] at h3
 exact absurd h3 (by decide)
theorem mg_nz {top k a:Nat} (s o:St):nzQ (mgQ top k a s o)≠[]:=o_174 (o_173 s o)
theorem o_175 {next:St→Sp} {l:Sp} (hn:∀p∈l,∀q∈next p.1,0≤q.2) (h:∀p∈l,0≤p.2):∀p∈timesQ next l,0≤p.2:=by
 have hget:∀(l:Sp) (s:St),(∀p∈l,0≤p.2)→0≤getQ l s:=by
  intro l s
  induction l with
  | nil=>intro _;exact Rat.le_refl
  | cons p l ih =>
   intro h
   unfold getQ
   split
   ·exact h p (by simp)
   ·exact ih fun q hq=>h q (by simp [hq])
 have hin:∀(q:Rat) (k out:Sp),0≤q→(∀p∈out,0≤p.2)→(∀p∈k,0≤p.2)→∀p∈innQ q out k,0≤p.2:=by
  intro q k
  induction k with
  | nil=>intro out _ h _;exact h
  | cons b k ih =>
   intro out hq ho hk
   refine ih (addQ out b.1 (q*b.2)) hq (fun p hp=>?_) fun p hp=>hk p (by simp [hp])
   rcases o_134 hp with hp | rfl
   ·exact ho p hp
   ·have h1:=hget out b.1 ho
    have h2:=Rat.mul_nonneg hq (hk b (by simp))
    show 0≤getQ out b.1+q*b.2
    grind
 have key:∀(k out:Sp),(∀p∈out,0≤p.2)→(∀p∈k,0≤p.2∧∀q∈next p.1,0≤q.2)→∀p∈k.foldl (fun out a=>innQ a.2 out (atQ (next a.1))) out,0≤p.2:=by
  intro k
  induction k with
  | nil=>intro out h _;exact h
  | cons a k ih =>
   intro out ho hk
   obtain ⟨h1,h2⟩:=hk a (by simp)
   exact ih _ (hin _ _ _ h1 ho fun p hp=>h2 p (List.mem_filter.1 ((o_12v _).mem_iff.1 hp)).1) fun p hp=>hk p (by simp [hp])
 refine key _ _ (fun p hp=>by cases hp) fun p hp=>?_
 have hp':=(List.mem_filter.1 ((o_12v l).mem_iff.1 hp)).1
 exact ⟨h p hp',hn p hp'⟩
theorem mg_ok {k a w:Nat} (h:GoodS k a w) {s o:St} (hs:okQ (topC w) s) (ho:okQ (topC w) o):oklQ (topC w) (mgQ (topC w) k a s o):=by
 have hup:=cl_up h hs o.1 ho.1
 have h1:kyQ (okQ (topC w)) (mgQ (topC w) k a s o):=by
  refine o_167 (P:=fun t=>okQ (topC w) t∧o.1≤t.1) (fun t ht p hp=>?_) hup
  have hp1:p∈fullQ o.2.2 t:=(List.mem_filter.1 hp).1
  simp [fullQ] at hp1
  subst hp1
  obtain ⟨⟨a1,a2,a3⟩,a4⟩:=ht
  refine ⟨a1,a2,fun hf=>?_⟩
  simp only [Bool.or_eq_true] at hf
  rcases hf with hf | hf
  ·exact a3 hf
  ·have:=ho.2.2 hf
   show t.1=topC w
   omega
 have h2:∀p∈mgQ (topC w) k a s o,0≤p.2:=o_175 (fun p hp q hq=>by
  simp [fullQ] at hq;subst hq
  exact (by decide:(0:Rat)≤1)) fun p hp=>(cl_ok h hs o.1 p hp).2
 exact fun p hp=>⟨h1 p hp,h2 p hp⟩
theorem mg_gr {k a w G:Nat} (h:GoodS k a w) (hc:∀r x,x≤15→Gr G 1 (ratC k a r x)) {s o:St} (hs:okQ (topC w) s) (ho:o.1≤15):∀p∈mgQ (topC w) k a s o,Gr (G^o.1*G) (80*80^o.1) p.2:=by
 have hl:=o_15h (cl_uq s o.1) (o_169 (k:=k) (a:=a) hs o.1)
 have hA:(atQ (clQ (topC w) k a s o.1)).length≤40:=Nat.le_trans (o_158 _) (by omega)
 have hm:∀p∈atQ (clQ (topC w) k a s o.1),p∈clQ (topC w) k a s o.1:=fun p hp=>(List.mem_filter.1 ((o_12v _).mem_iff.1 hp)).1
 have:=o_155 (D:=G^o.1) (E:=G) (B:=80^o.1) (J:=2) (next:=fullQ o.2.2) (A:=atQ (clQ (topC w) k a s o.1)) (fun p hp=>cl_gr h hc hs o.1 (by omega) p (hm p hp)) (fun p hp=>⟨(o_16o o.2.2 G p.1).gr,Nat.le_trans (o_158 _) (o_16o o.2.2 G p.1).len⟩) _ (Nat.le_refl _)
 rw [o_152] at this
 intro p hp
 exact (this p hp).le (Nat.mul_le_mul_right _ (by omega))
theorem o_176 {k a w:Nat} (h:GoodS k a w) {o:St} (h1:o.1≤15) {s:St} (hs:okQ (topC w) s) (ho:okQ (topC w) o):Eqn Tryz.prog o_9p [.mp 0] [spO (mgQ (topC w) k a s o)] (.d (.sl (atQ (mgQ (topC w) k a s o)).length (spD rcD (atQ (mgQ (topC w) k a s o))))) [spO (mgQ (topC w) k a s o)]:=by
 have h8:2^w≤16:=Nat.pow_le_pow_right (n:=2) (by omega) h.2.2
 have h7:topC w≤15:=by unfold topC;omega
 obtain ⟨G,hG,hG63,-,hc⟩:=o_162 h
 have hl:=o_172 (mg_uq (top:=topC w) (k:=k) (a:=a) s o) (mg_ok h hs ho)
 refine o_14x _ (mg_uq s o) (mg_nz s o) (Nat.le_trans (List.length_filter_le _ _) (by omega)) (by omega) fun p hp=>(mg_gr h hc hs (by omega) p hp).rs (Nat.mul_pos (Nat.pow_pos hG) hG) (Nat.mul_pos (by decide) (Nat.pow_pos (by decide))) (o_170 hG63 (by omega)).1
end
section
open Go.RowKit
theorem Gr.scale {D B:Nat} {q:Rat} (E:Nat) (h:Gr D B q):Gr (D*E) B q:=by
 obtain ⟨z,h1,h2⟩:=h
 refine ⟨z*E,?_,?_⟩
 ·have e1:((z*E:Nat):Rat)=(z:Rat)*(E:Rat):=by simp
  have e2:((D*E:Nat):Rat)=(D:Rat)*(E:Rat):=by simp
  rw [e1,e2,←h1];grind
 ·rw [←Nat.mul_assoc];exact Nat.mul_le_mul_right _ h2
end
section
open Go.RowKit
end
section
open Go.RowKit
theorem o_177 (n:Nat) (h0:0<n) (hn:n≤100000):Eqn Tryz.prog o_f2 [.d .nilsl,.d (.int .i64 n)] [] (.own 0 6 0) [⟨75,[]⟩]:=by
 refine Eqn.gen [0] o_f4 (by simp) (by simp) (by rfl) (by decide) (by simp) (by simp) ?_
 refine cc (c':=?z280) ?_ ?_
 case refine_1=>cbv<;>exact rfl
 have g1:¬(n:Int)<0:=by omega
 have g2:(0:Int)<n:=by omega
 have e0:IntKind.i64.wrap 0=0:=w64 (by omega) (by omega)
 have e1:IntKind.i64.wrap (0-0)=0:=w64 (by omega) (by omega)
 have e2:IntKind.i64.wrap ((n:Int)-0)=n:=by rw [w64 (by omega) (by omega)];omega
 have e3:IntKind.i64.wrap (n:Int)=n:=w64 (by omega) (by omega)
 refine A10 (fs g1 (fs g2 (fs h0 (fs e0 (fs e1 (fs e2 e3)))))) ?_;try with_reducible exact tt
theorem o_178 (la lb:Nat) (A B:List D) (ha:A.length=la*6) (hb:B.length=lb*6) (h0:0<la) (h1:0<lb) (hla:la≤1000) (hlb:lb≤1000):Eqn Tryz.prog o_av [.d (.sl 2 [.sl la A,.sl lb B])] [] (.own 0 6 (la+lb)) [⟨75,(A++B).map .d⟩]:=by
 refine Eqn.gen [2] o_ax (by simp) (by simp) (by rfl) (by decide) (by simp) (by intro ob h;simp only [List.mem_singleton] at h;subst h;exact o_62 _ _) ?_
 refine cc (c':=?z281) ?_ ?_
 case refine_1=>cbv<;>exact rfl
 have hg:=o_177 (la+lb) (by omega) (by omega)
 have e1:IntKind.i64.wrap (0+(la:Int))=la:=by rw [w64 (by omega) (by omega)];omega
 have e1':IntKind.i64.wrap (la:Int)=la:=w64 (by omega) (by omega)
 have e2:IntKind.i64.wrap ((la:Int)+lb)=((la+lb:Nat):Int):=by rw [w64 (by omega) (by omega)];omega
 have g1:¬(la:Int)<0:=by omega
 have g2:¬((la+lb:Nat):Int)<0:=by omega
 have l0:la≠0:=by omega
 have l1:lb≠0:=by omega
 obtain ⟨n,hn⟩:∃n,n=la+lb:=⟨_,rfl⟩
 rw [←hn] at hg e2 g2 ⊢
 have w1:IntKind.i64.wrap (0+1)=1:=by decide
 have w2:IntKind.i64.wrap (1+1)=2:=by decide
 refine A00 ?_;try with_reducible exact tt
 refine AW.rounds 3 ?_
 refine A10 (fs e1 (fs e1' (fs e2 (fs g1 (fs g2 (fs w1 w2)))))) ?_;try with_reducible exact tt
 refine CallS.nX (hg) (hO':=o_5m []) (R0 ?_);try with_reducible exact tt
 refine AW.rounds 3 ?_
 refine A10 (fs ha (fs hb (fs l0 (fs l1 (fs w1 w2))))) ?_;try with_reducible exact tt
 first
 | (refine ⟨by rw [hn];exact Sub1.refl _,Subs.of ?_⟩;rw [←List.map_append,o_61])
 | (rw [hn];exact Sub1.refl _)
end
section
open Go.RowKit
def inG (mg:St→St→Sp) (x:St×Rat) (B:Sp) (out:Sp) (j:Nat):Sp:=(B.take j).foldl (fun out y=>innQ (x.2*y.2) out (atQ (mg x.1 y.1))) out
def outG (mg:St→St→Sp) (A B:Sp) (i:Nat):Sp:=(A.take i).foldl (fun out x=>B.foldl (fun out y=>innQ (x.2*y.2) out (atQ (mg x.1 y.1))) out) []
def mrgG (mg:St→St→Sp) (A B:Sp):Sp:=A.foldl (fun out x=>B.foldl (fun out y=>innQ (x.2*y.2) out (atQ (mg x.1 y.1))) out) []
theorem o_179 (mg:St→St→Sp) (x:St×Rat) (B out:Sp) (j:Nat) (h:j<B.length):inG mg x B out (j+1)=innQ (x.2*B[j].2) (inG mg x B out j) (atQ (mg x.1 B[j].1)):=by
 unfold inG;rw [List.take_add_one,List.getElem?_eq_getElem h,Option.toList,List.foldl_append];rfl
theorem o_17a (mg:St→St→Sp) (x:St×Rat) (B out:Sp):inG mg x B out B.length=B.foldl (fun out y=>innQ (x.2*y.2) out (atQ (mg x.1 y.1))) out:=by unfold inG;rw [List.take_length]
theorem o_17b (mg:St→St→Sp) (A B:Sp) (i:Nat) (h:i<A.length):outG mg A B (i+1)=inG mg A[i] B (outG mg A B i) B.length:=by
 rw [o_17a]
 unfold outG;rw [List.take_add_one,List.getElem?_eq_getElem h,Option.toList,List.foldl_append];rfl
theorem o_17c (mg:St→St→Sp) (A B:Sp):outG mg A B A.length=mrgG mg A B:=by unfold outG mrgG;rw [List.take_length]
theorem o_17d {mg:St→St→Sp} {D C M J:Nat} {x:St×Rat} {B out:Sp} (ho:∀p∈out,Gr D C p.2) (hB:∀y∈B,(∀p∈atQ (mg x.1 y.1),Gr D M (x.2*y.2*p.2))∧(atQ (mg x.1 y.1)).length≤J):∀j,j≤B.length→∀p∈inG mg x B out j,Gr D (C+j*J*M) p.2
 | 0,_=>fun p hp=>by
  simp [inG] at hp
  exact (ho p hp).le (by omega)
 | j+1,hj=>by
  have hj':j<B.length:=hj
  rw [o_179 mg x B out j hj']
  obtain ⟨h1,h2⟩:=hB B[j] (List.getElem_mem hj')
  intro p hp
  refine (o_154 (o_17d ho hB j (by omega)) _ h1 p hp).le ?_
  have:=Nat.mul_le_mul_right M h2
  have e:(j+1)*J*M=j*J*M+J*M:=by rw [Nat.add_mul j 1 J,Nat.one_mul,Nat.add_mul]
  omega
theorem o_17e {mg:St→St→Sp} {D M J L:Nat} {A B:Sp} (hBL:B.length≤L) (hAB:∀x∈A,∀y∈B,(∀p∈atQ (mg x.1 y.1),Gr D M (x.2*y.2*p.2))∧(atQ (mg x.1 y.1)).length≤J):∀i,i≤A.length→∀p∈outG mg A B i,Gr D (i*(L*J)*M) p.2
 | 0,_=>fun p hp=>by simp [outG] at hp
 | i+1,hi=>by
  have hi':i<A.length:=hi
  rw [o_17b mg A B i hi']
  intro p hp
  refine (o_17d (o_17e hBL hAB i (by omega)) (hAB A[i] (List.getElem_mem hi')) B.length (Nat.le_refl _) p hp).le ?_
  have h1:=Nat.mul_le_mul_right M (Nat.mul_le_mul_right J hBL)
  have e:(i+1)*(L*J)*M=i*(L*J)*M+L*J*M:=by rw [Nat.add_mul i 1 (L*J),Nat.one_mul,Nat.add_mul]
  omega
structure MrgOK (k a w:Nat) (mg:St→St→Sp) (A B:Sp) (D M J L:Nat):Prop where
 dp:0<D
 mp:1≤M
 jp:1≤J
 lp:1≤L
 j2:J≤1000
 a1:1≤A.length
 a2:A.length≤1000
 b1:1≤B.length
 b2:B.length≤L
 l2:L≤1000
 xs:∀x∈A,0≤x.2∧RS x.2 40000
 ys:∀y∈B,0≤y.2∧RS y.2 40000
 gr:∀x∈A,∀y∈B,(∀p∈atQ (mg x.1 y.1),Gr D M (x.2*y.2*p.2))∧(atQ (mg x.1 y.1)).length≤J
 rs:∀x∈A,∀y∈B,∀p∈atQ (mg x.1 y.1),RS p.2 100000
 sz:size ((A.length+2)*(L*J)*M*D)≤100000
 cost:Eqn Tryz.prog o_9m [.d (parD k a w),.d (.sl (A.length+B.length) (stsD ((A++B).map (·.1))))] [] (.d (.int .i64 0)) []
 call:∀x∈A,∀y∈B,Eqn Tryz.prog o_a4 [.d (parD k a w),.d (.agg (stD x.1)),.d (.agg (stD y.1))] [] (.mp 0) [spO (mg x.1 y.1)]∧Eqn Tryz.prog o_9p [.mp 0] [spO (mg x.1 y.1)] (.d (.sl (atQ (mg x.1 y.1)).length (spD rcD (atQ (mg x.1 y.1))))) [spO (mg x.1 y.1)]
 out:Eqn Tryz.prog o_9p [.mp 0] [spO (mrgG mg A B)] (.d (.sl (atQ (mrgG mg A B)).length (spD rcD (atQ (mrgG mg A B))))) [spO (mrgG mg A B)]
def slC (la lb:Nat) (A B C:List D) (n i:Nat):List V:=setS (List.replicate 100 .junk) [(1,.d (.sl la A)),(2,.d (.sl lb B)),(3,.p 0 0),(8,if i=0 then .d .nilsl else .own 1 3 i),(9,.d (.bool false)),(23,.d (.sl n C)),(24,.d (.int .i64 n)),(25,.d (.int .i64 (i:Nat)))]
def hpC (k a w:Nat) (S:List St) (i:Nat):List (Option Ob):=[some ⟨62,[.d (.int .i64 k),.d (.int .i64 a),.d (.int .i64 w)]⟩]++if i=0 then [] else [some ⟨64,(stsD (S.take i)).map .d⟩]
theorem o_17f (S:List St) (i:Nat) (h:i<S.length):stsD (S.take (i+1))=stsD (S.take i)++stD S[i]:=by
 unfold stsD;rw [List.take_add_one,List.getElem?_eq_getElem h,Option.toList,List.flatMap_append];simp
theorem o_17g {x:Rat} (h:0≤x):¬cmpQ x 0<0:=by
 unfold cmpQ
 rw [if_neg (Rat.not_lt.2 h)]
 split<;>decide
set_option maxHeartbeats 4000000 in
theorem o_17h {k a w:Nat} {mg:St→St→Sp} {A B:Sp} {G M J L:Nat} (h:MrgOK k a w mg A B G M J L):Eqn Tryz.prog o_7s [.d (parD k a w),.d (.sl A.length (spD rcD A)),.d (.sl B.length (spD rcD B))] [] (.tup [.d (.sl (atQ (mrgG mg A B)).length (spD rcD (atQ (mrgG mg A B)))),.d (.int .i64 0)]) []:=by
 refine Eqn.pure o_7u Plain.ok ?_
 have ha:=o_12e rcD (fun _=>rfl) A
 have hb:=o_12e rcD (fun _=>rfl) B
 have hcon:=o_178 A.length B.length (spD rcD A) (spD rcD B) ha hb h.a1 h.b1 h.a2 (Nat.le_trans h.b2 h.l2)
 have hAB:spD rcD A++spD rcD B=spD rcD (A++B):=by simp [spD]
 rw [hAB] at hcon
 have hc:=o_12e rcD (fun _=>rfl) (A++B)
 have hcl:(A++B).length=A.length+B.length:=List.length_append
 have hget:=o_15a (A++B)
 have hgA:=o_15a A
 have hgB:=o_15a B
 have hA2:=h.a2
 have hB2:=h.b2
 have hL2:=h.l2
 have hJ2:=h.j2
 have hout:=h.out
 have hgo:=o_17e h.b2 h.gr
 have hnn:∀p∈A++B,0≤p.2∧RS p.2 40000:=fun p hp=>by
  rcases List.mem_append.1 hp with hp | hp
  ·exact h.xs p hp
  ·exact h.ys p hp
 have hcost:=h.cost
 have hn1:A.length+B.length≤2000:=by have:=h.a2;have:=h.b2;have:=h.l2;omega
 have hsl:((A++B).map (·.1)).length=(A++B).length:=List.length_map _
 have hsg:∀i (hi:i<(A++B).length),((A++B).map (·.1))[i]'(by rw [hsl];exact hi)=(A++B)[i].1:=fun i hi=>List.getElem_map _
 have hsn:=o_17f ((A++B).map (·.1))
 have hsll:=fun i=>o_16r (((A++B).map (·.1)).take i)
 rw [←hcl] at hcon hcost hn1
 generalize hSS:(A++B).map (·.1)=S at *
 generalize hBB:A++B=AB at *
 generalize spD rcD A=CA at *
 generalize spD rcD B=CB at *
 obtain ⟨n,hn⟩:∃n,n=AB.length:=⟨_,rfl⟩
 rw [←hn] at hcon hcost hn1 hc hcl hsl
 have htk:(spD rcD AB).take (n*6)=spD rcD AB:=List.take_of_length_le (by omega)
 refine cc (c':=?z282) ?_ ?_
 case refine_1=>cbv<;>exact rfl
 try simp only [parD] at hcost ⊢
 refine A00 ?_;try with_reducible exact tt
 refine CallS.gf 1 1 ⟨_,[.d (.sl A.length CA),.d (.sl B.length CB)]⟩ [.sl A.length CA,.sl B.length CB] [] (hcon) (R0 ?_);try with_reducible exact tt
 refine AW.freeze 2 6 ⟨75,(spD rcD AB).map .d⟩ (spD rcD AB) (by simp) rfl ?_
 simp [frzH,htk]
 refine AW.loopG (α:=Nat) (fun i=>slC A.length B.length CA CB (spD rcD AB) n i) (fun i=>hpC k a w S i) (fun i=>i≤n) (fun i=>n-i) 0 ?_ (Nat.zero_le _) ?_ ?_ ?_
 ·intro i hi;unfold hpC;split<;>simp
 ·simp [slC,hpC]
 ·simp [hpC]
 rintro i hi
 by_cases hi2:i<n
 ·have hi3:(i:Int)<n:=by omega
  obtain ⟨s1,s2,s3,q,N1,N2,N3,hp,hN,hg⟩:=hget i (by omega)
  obtain ⟨hq0,hqr⟩:=hnn _ (List.getElem_mem (by omega:i<AB.length))
  rw [hp] at hq0 hqr
  have hsi:=hsn i (by omega)
  rw [hsg i (by omega),hp] at hsi
  have hlen:=hsll i
  rw [List.length_take,Nat.min_eq_left (by omega)] at hlen
  have ho:=rof0
  have hcm:=o_uo q 0 (hqr.le (by omega)) ⟨by decide,by decide⟩
  have hcn:=o_17g hq0
  generalize cmpQ q 0=z at *
  have hz0:rcD 0=[natW 0,.bool false,natW 0]:=rfl
  rw [rD_rc,rD_rc,hN] at hcm
  rw [rD_rc] at ho
  rw [hz0] at hcm ho
  have ew:IntKind.i64.wrap ((i:Int)+1)=((i+1:Nat):Int):=by rw [w64 (by omega) (by omega)];omega
  have hb6:i*6+6≤n*6:=by omega
  have hb7:i*6<n*6:=by omega
  have ht3:(stsD (S.take i)).length=i*3:=hlen
  by_cases h0:i=0
  ·subst h0
   simp only [slC,hpC,if_true]
   simp only [Nat.zero_mul,List.drop_zero] at hg
   simp
   refine A12 (fs hi2 (fs hi3 (fs hg (fs hc (fs hb6 (fs hb7 (fs ew hcn))))))) ho hcm ?_;try with_reducible exact tt
   refine ⟨1,1,3,⟨by omega,by omega⟩,by omega,by omega,?_,?_⟩
   ·simp [slC,hpC,swT,swH,sw,Ob.sw,V.ren,V.rens]
   ·rw [hsi]
    simp [slC,hpC,swT,swH,sw,Ob.sw,V.ren,V.rens,stsD,stD]
  ·have hcs:([.int .i64 s1,.int .i64 s2,.bool s3]:List D).map V.d=[.d (.int .i64 s1),.d (.int .i64 s2),.d (.bool s3)]:=rfl
   simp only [slC,hpC,if_neg h0]
   simp
   refine A12 (fs hi2 (fs hi3 (fs hg (fs hc (fs hb6 (fs hb7 (fs ew (fs hcn (fs ht3 h0))))))))) ho hcm ?_;try with_reducible exact tt
   refine ⟨i+1,1,4,⟨by omega,by omega⟩,by omega,by omega,?_,?_⟩
   ·simp [slC,hpC,swT,swH,sw,Ob.sw,V.ren,V.rens]
   ·rw [hsi]
    simp [slC,hpC,swT,swH,sw,Ob.sw,V.ren,V.rens,stD]
    all_goals (rw [←hcs,←List.map_append,o_61];exact ⟨Subs.refl _,o_62 _ _⟩)
 ·have h2:i=n:=by omega
  subst h2
  have h0:¬i=0:=by have:=h.a1;omega
  have hSt:S.take i=S:=List.take_of_length_le (by omega)
  have hsl3:=o_16r S
  have htk3:(stsD S).take (i*3)=stsD S:=List.take_of_length_le (by omega)
  simp only [slC,hpC,if_neg h0,hSt]
  simp
  refine AW.freeze 1 3 ⟨64,(stsD S).map .d⟩ (stsD S) (by simp) rfl ?_
  simp [frzH,htk3]
  refine A01 hcost ?_;try with_reducible exact tt
  rw [←o_17c] at hout ⊢
  refine AW.loopG (α:=Nat) (fun j=>setS (List.replicate 100 .junk) [(1,.d (.sl A.length CA)),(2,.d (.sl B.length CB)),(3,.p 0 0),(13,.mp 2),(59,.d (.sl A.length CA)),(60,.d (.int .i64 A.length)),(61,.d (.int .i64 (j:Nat)))]) (fun j=>[some ⟨62,[.d (.int .i64 k),.d (.int .i64 a),.d (.int .i64 w)]⟩,none,some ⟨1000391,(spD rcD (outG mg A B j)).map .d⟩]) (fun j=>j≤A.length) (fun j=>A.length-j) 0 ?_ (Nat.zero_le _) ?_ ?_ ?_
  ·intro i hi;simp
  ·simp
  ·simp [outG,spD]
  clear hget hcon hcost hnn hsl hsg hsn hsll hSt hsl3 htk3 htk hc hBB hSS
  rintro u hu
  simp
  by_cases hu2:u<A.length
  ·have hu3:(u:Int)<A.length:=by omega
   obtain ⟨x1,x2,x3,xq,X1,X2,X3,hpx,hX,hgx⟩:=hgA u hu2
   have hxm:((x1,x2,x3),xq)∈A:=by rw [←hpx];exact List.getElem_mem hu2
   have hxr:=(h.xs _ hxm).2
   have hgou:=hgo u hu
   have hon:=o_17b mg A B u hu2
   rw [hpx] at hon
   have hx6:u*6+6≤A.length*6:=by omega
   have hx7:u*6<A.length*6:=by omega
   have ewu:IntKind.i64.wrap ((u:Int)+1)=((u+1:Nat):Int):=by rw [w64 (by omega) (by omega)];omega
   refine A10 (fs hu2 (fs hu3 (fs hgx (fs ha (fs hx6 hx7))))) ?_;try with_reducible exact tt
   refine AW.loopG (α:=Nat) (fun j=>setS (List.replicate 100 .junk) [(1,.d (.sl A.length CA)),(2,.d (.sl B.length CB)),(3,.p 0 0),(13,.mp 2),(15,.p 3 0),(59,.d (.sl A.length CA)),(60,.d (.int .i64 A.length)),(61,.d (.int .i64 (u:Nat))),(65,.d (.sl B.length CB)),(66,.d (.int .i64 B.length)),(67,.d (.int .i64 (j:Nat)))]) (fun j=>[some ⟨62,[.d (.int .i64 k),.d (.int .i64 a),.d (.int .i64 w)]⟩,none,some ⟨1000391,(spD rcD (inG mg ((x1,x2,x3),xq) B (outG mg A B u) j)).map .d⟩,some ⟨75,[.d (.int .i64 x1),.d (.int .i64 x2),.d (.bool x3),.d X1,.d X2,.d X3]⟩]) (fun j=>j≤B.length) (fun j=>B.length-j) 0 ?_ (Nat.zero_le _) ?_ ?_ ?_
   ·intro i hi;simp
   ·simp
   ·simp [inG]
   rintro v hv
   simp
   by_cases hv2:v<B.length
   ·have hv3:(v:Int)<B.length:=by omega
    obtain ⟨y1,y2,y3,yq,Y1,Y2,Y3,hpy,hY,hgy⟩:=hgB v hv2
    have hym:((y1,y2,y3),yq)∈B:=by rw [←hpy];exact List.getElem_mem hv2
    have hyr:=(h.ys _ hym).2
    obtain ⟨hme,hat⟩:=h.call _ hxm _ hym
    obtain ⟨hgC,hJ⟩:=h.gr _ hxm _ hym
    have hrC:=h.rs _ hxm _ hym
    have hin:=o_17d hgou (fun y hy=>h.gr _ hxm y hy) v hv
    have hon2:=o_179 mg ((x1,x2,x3),xq) B (outG mg A B u) v hv2
    rw [hpy] at hon2
    simp only at hme hat hgC hJ hrC hon2
    have hy6:v*6+6≤B.length*6:=by omega
    have hy7:v*6<B.length*6:=by omega
    have ewv:IntKind.i64.wrap ((v:Int)+1)=((v+1:Nat):Int):=by rw [w64 (by omega) (by omega)];omega
    have hq:=o_ul xq yq (hxr.le (by omega)) (hyr.le (by omega))
    have hqr:=(RS.mul hxr hyr).le (M:=100000) (by omega)
    obtain ⟨C,hC⟩:∃C,C=atQ (mg (x1,x2,x3) (y1,y2,y3)):=⟨_,rfl⟩
    rw [←hC] at hat hgC hJ hrC hon2
    have hCl:=o_12e rcD (fun _=>rfl) C
    have hgetC:=o_15a C
    have hJ1:u*(L*J)*M+v*J*M+J*M≤(A.length+2)*(L*J)*M:=by
     have k1:v*J≤L*J:=Nat.mul_le_mul_right J (by omega)
     have k2:J≤L*J:=Nat.le_mul_of_pos_left J h.lp
     have k3:=Nat.mul_le_mul_right M k1
     have k4:=Nat.mul_le_mul_right M k2
     have k5:u*(L*J)*M≤A.length*(L*J)*M:=Nat.mul_le_mul_right M (Nat.mul_le_mul_right _ hu)
     have k6:(A.length+2)*(L*J)*M=A.length*(L*J)*M+2*(L*J*M):=by rw [Nat.add_mul A.length 2,Nat.add_mul,Nat.mul_assoc 2]
     rw [k6]
     omega
    have hCAP:1≤(A.length+2)*(L*J)*M:=Nat.mul_pos (Nat.mul_pos (by omega) (Nat.mul_pos h.lp h.jp)) h.mp
    have hM1:M≤(A.length+2)*(L*J)*M:=Nat.le_mul_of_pos_left M (Nat.mul_pos (by omega) (Nat.mul_pos h.lp h.jp))
    have hsz:=h.sz
    generalize (A.length+2)*(L*J)*M=CAP at *
    simp only [spO,stD,parD] at hme hat
    rw [rD_rc xq,rD_rc yq,hX,hY,rD_rc] at hq
    obtain ⟨Q1,Q2,Q3,hQ⟩:∃Q1 Q2 Q3,rcD (xq*yq)=[Q1,Q2,Q3]:=⟨_,_,_,rfl⟩
    rw [hQ] at hq
    refine A10 (fs hv2 (fs hv3 (fs hgy (fs hb (fs hy6 hy7))))) ?_;try with_reducible exact tt
    refine CallS.nX (hme) (R0 ?_);try with_reducible exact tt
    refine CallS.g [5] (hat) (R0 ?_);try with_reducible exact tt
    refine AW.loopG (α:=Nat) (fun j=>setS (List.replicate 100 .junk) [(1,.d (.sl A.length CA)),(2,.d (.sl B.length CB)),(3,.p 0 0),(13,.mp 2),(15,.p 3 0),(17,.p 4 0),(59,.d (.sl A.length CA)),(60,.d (.int .i64 A.length)),(61,.d (.int .i64 (u:Nat))),(65,.d (.sl B.length CB)),(66,.d (.int .i64 B.length)),(67,.d (.int .i64 (v:Nat))),(77,.d (.sl C.length (spD rcD C))),(78,.d (.int .i64 C.length)),(79,.d (.int .i64 (j:Nat)))]) (fun j=>[some ⟨62,[.d (.int .i64 k),.d (.int .i64 a),.d (.int .i64 w)]⟩,none,some ⟨1000391,(spD rcD (innQ (xq*yq) (inG mg ((x1,x2,x3),xq) B (outG mg A B u) v) (C.take j))).map .d⟩,some ⟨75,[.d (.int .i64 x1),.d (.int .i64 x2),.d (.bool x3),.d X1,.d X2,.d X3]⟩,some ⟨75,[.d (.int .i64 y1),.d (.int .i64 y2),.d (.bool y3),.d Y1,.d Y2,.d Y3]⟩]) (fun j=>j≤C.length) (fun j=>C.length-j) 0 ?_ (Nat.zero_le _) ?_ ?_ ?_
    ·intro i hi;simp
    ·simp
    ·simp [innQ]
    rintro j hj
    simp
    by_cases hj2:j<C.length
    ·have hj3:(j:Int)<C.length:=by omega
     obtain ⟨t1,t2,t3,r,M1,M2,M3,hpc,hMM,hgc⟩:=hgetC j hj2
     have hinn:=o_150 (xq*yq) (inG mg ((x1,x2,x3),xq) B (outG mg A B u) v) C j hj2
     have hgr:=hgC _ (List.getElem_mem hj2)
     have hrr:=hrC _ (List.getElem_mem hj2)
     rw [hpc] at hinn hgr hrr
     simp only at hinn hgr hrr
     have hgi:=o_154 (q:=xq*yq) hin (C.take j) (fun p hp=>hgC p (List.mem_of_mem_take hp))
     have hget2:=(o_153 hgi (t1,t2,t3)).le (C:=CAP) (by
      have e1:(C.take j).length*M≤J*M:=Nat.mul_le_mul_right M (by rw [List.length_take];omega)
      omega)
     have hmul:=o_ul r (xq*yq) hrr hqr
     rw [Rat.mul_comm r] at hmul
     have hadd:=o_13f (innQ (xq*yq) (inG mg ((x1,x2,x3),xq) B (outG mg A B u) v) (C.take j)) (t1,t2,t3) (xq*yq*r) (hget2.rs h.dp hCAP hsz) ((hgr.le hM1).rs h.dp hCAP hsz)
     have ewj:IntKind.i64.wrap ((j:Int)+1)=((j+1:Nat):Int):=by rw [w64 (by omega) (by omega)];omega
     have hc6:j*6+6≤C.length*6:=by omega
     have hc7:j*6<C.length*6:=by omega
     rw [←hinn] at hadd
     rw [rD_rc r,rD_rc (xq*yq),rD_rc (xq*yq*r),hQ,hMM] at hmul
     rw [rD_rc (xq*yq*r)] at hadd
     obtain ⟨P1,P2,P3,hP⟩:∃P1 P2 P3,rcD (xq*yq*r)=[P1,P2,P3]:=⟨_,_,_,rfl⟩
     rw [hP] at hmul hadd
     simp only [spO,stD] at hadd
     refine A12 (fs hj2 (fs hj3 (fs hgc (fs hCl (fs hc6 hc7))))) hq hmul ?_;try with_reducible exact tt
     refine CallS.g [2] (hadd) (R0 ?_);try with_reducible exact tt
     refine A10 ewj ?_;try with_reducible exact tt
     refine ⟨j+1,2,2,⟨by omega,by omega⟩,by omega,by omega,?_,?_⟩
     ·simp [swT,swH,sw,Ob.sw,V.ren,V.rens]
     ·simp [swT,swH,sw,Ob.sw,V.ren,V.rens]
    ·have h2:j=C.length:=by omega
     subst h2
     rw [List.take_length,←hon2]
     refine A10 ewv ?_;try with_reducible exact tt
     refine ⟨v+1,2,2,⟨by omega,by omega⟩,by omega,by omega,?_,?_⟩
     ·simp [swT,swH,sw,Ob.sw,V.ren,V.rens]
     ·simp [swT,swH,sw,Ob.sw,V.ren,V.rens]
   ·have h2:v=B.length:=by omega
    subst h2
    rw [←hon]
    refine A10 ewu ?_;try with_reducible exact tt
    refine ⟨u+1,2,2,⟨by omega,by omega⟩,by omega,by omega,?_,?_⟩
    ·simp [swT,swH,sw,Ob.sw,V.ren,V.rens]
    ·simp [swT,swH,sw,Ob.sw,V.ren,V.rens]
  ·have h2:u=A.length:=by omega
   subst h2
   simp only [spO] at hout
   refine A00 ?_;try with_reducible exact tt
   refine CallS.g [2] (hout) (R0 ?_);try with_reducible exact tt
   done
end
section
open Go.RowKit
theorem wellQ {k a w:Nat} (h:GoodS k a w) {t:St} (ht:okQ (topC w) t):WellR k a w t.1 t.2.1 t.2.2:=.inr ⟨by have:=h.1;omega,ht.2.1,ht.1,ht.2.2⟩
end
section
open Go.RowKit
end
section
open Go.RowKit
def hf2:Rat:=mkRat 1 2
end
section
open Go.RowKit
def dlQ (s t:St):Rat:=if t=s then 1 else 0
def gA (top:Nat):Nat→St→Rat
 | 0,_=>0
 | i+1,t=>(gA top i t+dlQ (top-i,0,true) t)+dlQ (top-i,0,false) t
end
section
open Go.RowKit
end
section
open Go.RowKit
def add3 (x y:T3):T3:=(x.1*y.2.2+y.1*x.2.2,x.2.1*y.2.2+y.2.1*x.2.2,x.2.2*y.2.2)
def mul3 (x y:T3):T3:=(x.1*y.1+x.2.1*y.2.1,x.1*y.2.1+x.2.1*y.1,x.2.2*y.2.2)
def turn3 (x:T3):T3:=(x.2.1,x.1,x.2.2)
def zero3:T3:=(0,0,1)
def one3:T3:=(1,0,1)
def BT (E:Nat) (t:T3):Prop:=t.1<2^E∧t.2.1<2^E∧t.2.2<2^E∧0<t.2.2
theorem BT.up {E F:Nat} {t:T3} (h:BT E t) (hf:E≤F):BT F t:=⟨o_10x h.1 hf,o_10x h.2.1 hf,o_10x h.2.2.1 hf,h.2.2.2⟩
theorem BT.add {E:Nat} {x y:T3} (hx:BT E x) (hy:BT E y):BT (E+E+1) (add3 x y) :=
 ⟨o_10w (o_10v hx.1 hy.2.2.1) (o_10v hy.1 hx.2.2.1),o_10w (o_10v hx.2.1 hy.2.2.1) (o_10v hy.2.1 hx.2.2.1),o_10x (o_10v hx.2.2.1 hy.2.2.1) (by omega),Nat.mul_pos hx.2.2.2 hy.2.2.2⟩
theorem BT.mul {E F:Nat} {x y:T3} (hx:BT E x) (hy:BT F y):BT (E+F+1) (mul3 x y) :=
 ⟨o_10w (o_10v hx.1 hy.1) (o_10v hx.2.1 hy.2.1),o_10w (o_10v hx.1 hy.2.1) (o_10v hx.2.1 hy.1),o_10x (o_10v hx.2.2.1 hy.2.2.1) (by omega),Nat.mul_pos hx.2.2.2 hy.2.2.2⟩
theorem BT.turn {E:Nat} {x:T3} (hx:BT E x):BT E (turn3 x):=⟨hx.2.1,hx.1,hx.2.2.1,hx.2.2.2⟩
theorem BT.zero {E:Nat} (h:1≤E):BT E zero3:=⟨Nat.two_pow_pos _,Nat.two_pow_pos _,Nat.one_lt_two_pow (by omega),by decide⟩
theorem BT.one {E:Nat} (h:1≤E):BT E one3:=⟨Nat.one_lt_two_pow (by omega),Nat.two_pow_pos _,Nat.one_lt_two_pow (by omega),by decide⟩
theorem o_17i {E F:Nat} {x y:T3} (hx:BT E x) (hy:BT F y):vT3 (add3 x y)=vT3 x+vT3 y:=o_11m hx.2.2.2 hy.2.2.2
theorem o_17j {E F:Nat} {x y:T3} (hx:BT E x) (hy:BT F y):vT3 (mul3 x y)=vT3 x*vT3 y:=o_11n hx.2.2.2 hy.2.2.2
theorem o_17k (x:T3):vT3 (turn3 x) = -vT3 x:=o_11o _ _ _
theorem o_17l:vT3 zero3=0:=by
 have:=o_11p 0
 exact this
theorem o_17m:vT3 one3=1:=by
 have:=o_11p 1
 exact this
theorem o_17n {k a w j:Nat} (h:GoodS k a w) (hj:j≤15):vT3 (chT k a j)=chP k a j∧BT 65 (chT k a j):=by
 unfold chT chP
 by_cases hk:k=1
 ·rw [if_pos hk,if_pos hk]
  have ha:=gs_a h hk
  refine ⟨(o_15s a j ha.1).symm,o_10x (powB (E:=3) (by omega)) (by omega),Nat.two_pow_pos _,o_10x (powB (E:=3) (by omega)) (by omega),Nat.pow_pos (by omega)⟩
 ·rw [if_neg hk,if_neg hk]
  have he:=o_z1 h hk hj
  refine ⟨?_,Nat.one_lt_two_pow (by omega),Nat.two_pow_pos _,Nat.pow_lt_pow_right (by decide) (by omega),Nat.two_pow_pos _⟩
  show mkRat (((1:Nat):Int)-((0:Nat):Int)) (2^expOf k a j)=_
  rfl
def startT (top x:Nat) (f:Bool):List T3:=(List.range (top+1)).map fun j=>if f=false∧j=x then one3 else zero3
def eB:Nat→Nat
 | 0=>1
 | n+1=>2*eB n+275
theorem o_17o:∀n,1≤eB n
 | 0=>Nat.le_refl _
 | n+1=>by have:=o_17o n;rw [eB];omega
theorem o_17p {α:Type} (g:Nat→α) (d:α) (n j:Nat) (h:j<n):((List.range n).map g).getD j d=g j:=by
 rw [List.getD_eq_getElem?_getD,List.getElem?_map,List.getElem?_range h];rfl
end
section
open Go.RowKit
section
variable {top:Nat} {c V:Nat→Rat}
theorem okz (top:Nat):okQ top (0,0,false):=⟨Nat.zero_le _,rfl,by simp⟩
end
end
section
open Go.RowKit
theorem eB_le:∀n,n≤7→eB n≤40000:=by decide
def dl (s t:St):Rat:=if t=s then 1 else 0
end
section
open Go.RowKit
theorem o_17q {R c:List V} {o:Nat} (h:o+c.length≤R.length):((setMany R o c).drop o).take c.length=c:=by
 rw [o_l _ _ _ h]
 have h1:(R.take o).length=o:=by rw [List.length_take];omega
 rw [List.append_assoc,List.drop_append,List.drop_of_length_le (by omega),h1,Nat.sub_self]
 simp
theorem o_17r {R c:List V} {o p n:Nat} (h:o+c.length≤R.length) (hd:p+n≤o∨o+c.length≤p):((setMany R o c).drop p).take n=(R.drop p).take n:=by
 apply List.ext_getElem?
 intro i
 rw [List.getElem?_take,List.getElem?_take]
 split
 ·rename_i hi
  rw [List.getElem?_drop,List.getElem?_drop,o_l _ _ _ h]
  rcases hd with hd | hd
  ·rw [List.append_assoc,List.getElem?_append_left (by rw [List.length_take];omega),List.getElem?_take,if_pos (by omega)]
  ·rw [List.getElem?_append_right (by simp;omega),List.getElem?_drop]
   congr 1
   simp
   omega
 ·rfl
def qc (t:T3):List D:=[nD t.1,nD t.2.1,nD t.2.2]
def qv (t:T3):List V:=[.d (nD t.1),.d (nD t.2.1),.d (nD t.2.2)]
def rT (l:List T3):List V:=(l.flatMap qc).map .d
theorem o_17s (l:List T3):(rT l).length=l.length*3:=by rw [rT,List.length_map,o_11s (n:=3) (f:=qc) (fun _=>rfl)]
theorem o_17t (l:List T3) (i:Nat) (h:i<l.length):((rT l).drop (i*3)).take 3=qv (l.getD i zero3):=by
 rw [rT,←List.map_drop,←List.map_take,o_11u (n:=3) (f:=qc) (fun _=>rfl) l i h,List.getD_eq_getElem?_getD,List.getElem?_eq_getElem h]
 rfl
def holdT (R:List V) (m:Nat) (g:Nat→T3) (n:Nat):Prop:=R.length=m*3∧∀i,i<n→(R.drop (i*3)).take 3=qv (g i)
theorem holdT.set {R:List V} {m n:Nat} {g:Nat→T3} (h:holdT R m g n) (hn:n<m):holdT (setMany R (n*3) (qv (g n))) m g (n+1):=by
 have h3:(qv (g n)).length=3:=rfl
 refine ⟨by rw [o_5];exact h.1,fun i hi=>?_⟩
 by_cases e:i=n
 ·subst e
  exact o_17q (R:=R) (c:=qv (g i)) (o:=i*3) (by rw [h3,h.1];omega)
 ·rw [o_17r (o:=n*3) (by rw [h3,h.1];omega) (.inl (by omega))]
  exact h.2 i (by omega)
theorem holdT.eq {R:List V} {m:Nat} {g:Nat→T3} (h:holdT R m g m):R=rT ((List.range m).map g):=by
 have hl:((List.range m).map g).length=m:=by simp
 apply List.ext_getElem?
 intro t
 rcases Nat.lt_or_ge t (m*3) with ht | ht
 ·have hi:t/3<m:=by omega
  have h1:=h.2 (t/3) hi
  have h2:=o_17t ((List.range m).map g) (t/3) (by rw [hl];exact hi)
  rw [o_17p _ _ _ _ hi,←h1] at h2
  have h3:=congrArg (fun l=>l[t%3]?) h2
  simp only [List.getElem?_take,List.getElem?_drop] at h3
  rw [if_pos (Nat.mod_lt _ (by decide)),if_pos (Nat.mod_lt _ (by decide)),show t/3*3+t%3=t by omega] at h3
  exact h3.symm
 ·rw [List.getElem?_eq_none (by rw [h.1];exact ht),List.getElem?_eq_none (by rw [o_17s,hl];exact ht)]
theorem o_17u {R c d:List V} {o:Nat} (h:o+c.length≤R.length) (hcd:c.length=d.length):setMany (setMany R o c) o d=setMany R o d:=by
 rw [o_l _ _ _ (by rw [o_5,←hcd];exact h),o_l _ _ _ h,o_l d R o (by rw [←hcd];exact h)]
 have h1:(R.take o).length=o:=by rw [List.length_take];omega
 congr 1
 ·congr 1
  rw [List.append_assoc,List.take_append_of_le_length (by omega),List.take_of_length_le (by omega)]
 ·rw [←hcd,List.drop_append,List.drop_of_length_le (by simp;omega)]
  simp
  congr 1
  omega
@[simp] theorem o_17v (n:Nat) (t:T3):V.lowl n (qv t)=true:=by simp [qv,V.lowl,V.low]
end
section
open Go.RowKit
@[simp] theorem o_17w (n:Nat) (l:List T3):V.lowl n (rT l)=true:=o_62 _ _
@[simp] theorem o_17x (θ:Nat→Nat) (l:List T3):V.rens θ (rT l)=rT l:=o_61 _ _
theorem o_17y {E:Nat} {x y:T3} (hx:BT E x) (hy:BT E y) (hE:E≤50000):Eqn Tryz.prog o_8y [.d (.agg (qc x)),.d (.agg (qc y))] [] (.d (.agg (qc (add3 x y)))) []:=o_11h _ _ _ _ _ _ E hE hx.1 hx.2.1 hx.2.2.1 hy.1 hy.2.1 hy.2.2.1
theorem o_17z {E:Nat} {x y:T3} (hx:BT E x) (hy:BT E y) (hE:E≤50000):Eqn Tryz.prog o_97 [.d (.agg (qc x)),.d (.agg (qc y))] [] (.d (.agg (qc (mul3 x y)))) []:=o_11i _ _ _ _ _ _ E hE hx.1 hx.2.1 hx.2.2.1 hy.1 hy.2.1 hy.2.2.1
theorem o_180 (x:T3):Eqn Tryz.prog o_91 [.d (.agg (qc x))] [] (.d (.agg (qc (turn3 x)))) []:=o_11j _ _ _
theorem qc3 (t:T3):∃a b c,qc t=[a,b,c]∧qv t=[.d a,.d b,.d c]:=⟨_,_,_,rfl,rfl⟩
theorem flat3 {α:Type} (x:α):∀n:Nat,(List.replicate n [x,x,x]).flatten=List.replicate (n*3) x
 | 0=>rfl
 | n+1=>by
  rw [List.replicate_succ,List.flatten_cons,flat3 x n,show (n+1)*3=n*3+1+1+1 by omega,List.replicate_succ,List.replicate_succ,List.replicate_succ];rfl
def wq3 (R:List D) (o:Nat) (a b c:D):List D:=((R.set o a).set (o+1) b).set (o+1+1) c
theorem o_181 (R:List D) (o:Nat) (a b c:D):(wq3 R o a b c).length=R.length:=by simp [wq3]
theorem o_182 (R:List D) (o:Nat) (a b c:D):(((R.map V.d).set o (.d a)).set (o+1) (.d b)).set (o+1+1) (.d c)=(wq3 R o a b c).map V.d:=by simp [wq3,List.map_set]
theorem o_183 (R:List D) (o:Nat) (a b c:D):(wq3 R o a b c).map V.d=setMany (R.map V.d) o [.d a,.d b,.d c]:=by rw [←o_182];rfl
theorem o_184 (R:List D) (o:Nat) (a b c a' b' c':D) (h:o+3≤R.length):wq3 (wq3 R o a b c) o a' b' c'=wq3 R o a' b' c':=by
 have h1:((wq3 (wq3 R o a b c) o a' b' c').map V.d)=(wq3 R o a' b' c').map V.d:=by
  rw [o_183,o_183 R,o_183,o_17u (R:=R.map V.d) (o:=o) (c:=[.d a,.d b,.d c]) (d:=[.d a',.d b',.d c']) (by simpa using h) rfl]
 exact (List.map_inj_right fun x y h=>V.d.inj h).1 h1
theorem o_185 (R:List D) (o:Nat) (a b c:D) (h:o+3≤R.length):(((wq3 R o a b c).map V.d).drop o).take 3=[.d a,.d b,.d c]:=by
 rw [o_183]
 exact o_17q (c:=[.d a,.d b,.d c]) (by simpa using h)
end
section
open Go.RowKit
end
section
open Go.RowKit
end
section
open Go.RowKit
theorem is7T {x:Rat} {t:T3} {E:Nat} (hx:vT3 t=x) (hs:RS x 1000) (hE:E≤50000) (hb:BT E t):Eqn Tryz.prog o_7m [.d (rD x),.d (.agg (qc t))] [] (.d (.bool true)) [] :=
 o_11r x t.1 t.2.1 t.2.2 E hx.symm hs hE hb.1 hb.2.1 hb.2.2.1 hb.2.2.2
end
section
structure CP (α:Type) where
 O:List Bool→Option (α×Nat)
 D:List Bool→(α→Rat)→Rat
 o2:∀x a c,O x=some (a,c)→c≤x.length∧∀b,O (x++[b])=some (a,c)
 o3:∀x b a c,O x=none→O (x++[b])=some (a,c)→c=x.length+1
 d1:∀x a c g,O x=some (a,c)→D x g=g a
 d2:∀x g,O x=none→2*D x g=D (x++[false]) g+D (x++[true]) g
 d3:∀x g,(∀a,0≤g a∧g a≤1)→0≤D x g∧D x g≤1
namespace CP
def E {α:Type} (f:CP α) (g:α→Rat):Rat:=f.D [] g
def pure {α:Type} (a:α):CP α where
 O _:=some (a,0)
 D _ g:=g a
 o2 x a' c h:=by cases h;exact ⟨Nat.zero_le _,fun _=>rfl⟩
 o3 x b a' c h:=by cases h
 d1 x a' c g h:=by cases h;rfl
 d2 x g h:=by cases h
 d3 x g h:=h a
def coin:CP Bool where
 O x:=match x with | []=>none | b::_=>some (b,1)
 D x g:=match x with | []=>(g false+g true)/2 | b::_=>g b
 o2 x a c h:=by
  cases x with
  | nil=>cases h
  | cons b x=>cases h;exact ⟨by simp,fun _=>rfl⟩
 o3 x b a c h h2:=by
  cases x with
  | nil=>cases h2;rfl
  | cons b x=>cases h
 d1 x a c g h:=by
  cases x with
  | nil=>cases h
  | cons b x=>cases h;rfl
 d2 x g h:=by
  cases x with
  | nil=>simp only [List.nil_append];grind
  | cons b x=>cases h
 d3 x g h:=by
  have h1:=h false
  have h2:=h true
  cases x with
  | nil=>simp only;constructor<;>grind
  | cons b x=>exact h b
def bindO {α β:Type} (f:CP α) (k:α→CP β) (x:List Bool):Option (β×Nat):=match f.O x with
 | some (a,c)=>((k a).O (x.drop c)).map fun r=>(r.1,c+r.2)
 | none=>none
def bindD {α β:Type} (f:CP α) (k:α→CP β) (x:List Bool) (g:β→Rat):Rat:=match f.O x with
 | some (a,c)=>(k a).D (x.drop c) g
 | none=>f.D x fun a=>(k a).D [] g
theorem o_186 {α β:Type} (f:CP α) (k:α→CP β) (x:List Bool) (g:β→Rat) (b:Bool) (h:f.O x=none):bindD f k (x++[b]) g=f.D (x++[b]) fun a=>(k a).D [] g:=by
 unfold bindD
 split
 ·rename_i a c h2
  rw [f.d1 _ _ _ _ h2,f.o3 _ _ _ _ h h2,List.drop_of_length_le (by simp)]
 ·rfl
def bind {α β:Type} (f:CP α) (k:α→CP β):CP β where
 O:=bindO f k
 D:=bindD f k
 o2 x r n h:=by
  unfold bindO at h ⊢
  split at h
  ·rename_i a c h1
   obtain ⟨hc,hb⟩:=f.o2 _ _ _ h1
   obtain ⟨⟨r',c'⟩,h2,h3⟩:=Option.map_eq_some_iff.1 h
   cases h3
   obtain ⟨hc2,hb2⟩:=(k a).o2 _ _ _ h2
   rw [List.length_drop] at hc2
   refine ⟨by simp only;omega,fun b=>?_⟩
   rw [hb b]
   simp only
   rw [List.drop_append_of_le_length hc,hb2 b]
   rfl
  ·cases h
 o3 x b r n h h':=by
  unfold bindO at h h'
  cases h1:f.O x with
  | some ac =>
   obtain ⟨a,c⟩:=ac
   rw [h1] at h
   obtain ⟨hc,hb⟩:=f.o2 _ _ _ h1
   rw [hb b] at h'
   simp only at h h'
   rw [List.drop_append_of_le_length hc] at h'
   obtain ⟨⟨r',c'⟩,h2,h3⟩:=Option.map_eq_some_iff.1 h'
   cases h3
   have:=(k a).o3 _ _ _ _ (Option.map_eq_none_iff.1 h) h2
   rw [List.length_drop] at this
   simp only;omega
  | none =>
   cases h2:f.O (x++[b]) with
   | none=>rw [h2] at h';cases h'
   | some ac =>
    obtain ⟨a,c⟩:=ac
    rw [h2] at h'
    simp only at h'
    have hc:=f.o3 _ _ _ _ h1 h2
    rw [List.drop_of_length_le (by simp;omega)] at h'
    obtain ⟨⟨r',c'⟩,h3,h4⟩:=Option.map_eq_some_iff.1 h'
    cases h4
    have:=((k a).o2 _ _ _ h3).1
    simp only [List.length_nil] at this
    simp only;omega
 d1 x r n g h:=by
  unfold bindO at h
  unfold bindD
  split at h
  ·rename_i a c h1
   obtain ⟨⟨r',c'⟩,h2,h3⟩:=Option.map_eq_some_iff.1 h
   cases h3
   exact (k a).d1 _ _ _ _ h2
  ·cases h
 d2 x g h:=by
  unfold bindO at h
  cases h1:f.O x with
  | some ac =>
   obtain ⟨a,c⟩:=ac
   rw [h1] at h
   obtain ⟨hc,hb⟩:=f.o2 _ _ _ h1
   unfold bindD
   rw [h1,hb false,hb true]
   simp only
   rw [List.drop_append_of_le_length hc,List.drop_append_of_le_length hc]
   exact (k a).d2 _ _ (Option.map_eq_none_iff.1 h)
  | none =>
   rw [o_186 f k x g false h1,o_186 f k x g true h1,←f.d2 _ _ h1]
   unfold bindD
   rw [h1]
 d3 x g h:=by
  unfold bindD
  split
  ·exact (k _).d3 _ _ h
  ·exact f.d3 _ _ fun a=>(k a).d3 _ _ h
theorem bind_E {α β:Type} (f:CP α) (k:α→CP β) (g:β→Rat):(f.bind k).E g=f.E fun a=>(k a).E g:=by
 show bindD f k [] g=_
 unfold bindD
 split
 ·rename_i a c h
  have:=(f.o2 _ _ _ h).1
  simp only [List.length_nil,Nat.le_zero] at this
  subst this
  exact (f.d1 _ _ _ (fun a=>(k a).E g) h).symm
 ·rfl
end CP
end
section
theorem CP.bind_O {α β:Type} (f:CP α) (k:α→CP β) {x:List Bool} {a:α} {c:Nat} (h:f.O x=some (a,c)):(f.bind k).O x=((k a).O (x.drop c)).map fun r=>(r.1,c+r.2):=by
 show CP.bindO f k x=_
 unfold CP.bindO
 rw [h]
theorem CP.bind_Z {α β:Type} (f:CP α) (k:α→CP β) {x:List Bool} (h:f.O x=none):(f.bind k).O x=none:=by
 show CP.bindO f k x=_
 unfold CP.bindO
 rw [h]
def Runs {α:Type} (F:List Bool→Nat→Bool→α×Int×Nat×Bool) (f:CP α):Prop:=∀cs p,p≤cs.length→match f.O (cs.drop p) with
 | some (a,c)=>F cs p false=(a,0,p+c,false)
 | none=>(F cs p false).2.1=8
def flipR (cs:List Bool) (p:Nat) (d:Bool):Bool×Int×Nat×Bool:=(flipB cs p d,flipE cs p d,flipP cs p d,flipD cs p d)
theorem o_187 {cs:List Bool} {p:Nat} (hp:p=cs.length):flipR cs p false=(false,8,p,true):=by
 simp [flipR,flipB,flipE,flipP,flipD,hp]
theorem o_188 {cs:List Bool} {p:Nat} {b:Bool} {x:List Bool} (h:cs.drop p=b::x):flipR cs p false=(b,0,p+1,false)∧p<cs.length∧cs.drop (p+1)=x:=by
 have hl:=congrArg List.length h
 rw [List.length_drop,List.length_cons] at hl
 have hp:p<cs.length:=by omega
 have hn:¬p=cs.length:=by omega
 have h2:=List.drop_eq_getElem_cons hp
 rw [h] at h2
 obtain ⟨h3,h4⟩:=List.cons.inj h2
 refine ⟨?_,hp,h4.symm⟩
 simp [flipR,flipB,flipE,flipP,flipD,hn,h3,List.getElem?_eq_getElem hp]
theorem o_189 {cs:List Bool} {p:Nat} (hp:p≤cs.length) (h:cs.drop p=[]):p=cs.length:=by
 have hl:=congrArg List.length h
 rw [List.length_drop,List.length_nil] at hl
 omega
def halfP:Nat→CP Bool
 | 0=>.pure true
 | k+1=>CP.coin.bind fun b=>if b then halfP k else .pure false
theorem o_18a:∀k,Runs (fun cs p d=>halfR cs k p d) (halfP k)
 | 0=>fun cs p hp=>rfl
 | k+1=>fun cs p hp=>by
  have hF:halfR cs (k+1) p false=if (flipR cs p false).1 then halfR cs k (flipR cs p false).2.2.1 (flipR cs p false).2.2.2 else (false,(flipR cs p false).2):=rfl
  simp only [halfP,hF]
  cases hx:cs.drop p with
  | nil =>
   rw [o_187 (o_189 hp hx)]
   rfl
  | cons b x =>
   obtain ⟨h1,h2,h3⟩:=o_188 hx
   rw [h1]
   cases b with
   | false=>rfl
   | true =>
    have ih:=o_18a k cs (p+1) h2
    rw [h3] at ih
    rw [CP.bind_O CP.coin _ (x:=true::x) (a:=true) (c:=1) rfl]
    simp only [if_true,List.drop_succ_cons,List.drop_zero]
    cases ho:(halfP k).O x with
    | none=>rw [ho] at ih;exact ih
    | some ac =>
     obtain ⟨a,c⟩:=ac
     rw [ho] at ih
     simp only [Option.map_some] at ih ⊢
     rw [ih,Nat.add_assoc]
theorem o_18b (g:Bool→Rat):∀k,(halfP k).E g=mkRat 1 (2^k)*g true+(1-mkRat 1 (2^k))*g false
 | 0=>by
  have e:mkRat 1 (2^0)=1:=rfl
  rw [e]
  show g true=_
  grind
 | k+1=>by
  have ih:=o_18b g k
  have e:2*mkRat 1 (2^(k+1))=mkRat 1 (2^k):=by
   have hp:((2^k:Nat):Rat)≠0:=by
    have:=Nat.two_pow_pos k
    exact_mod_cast (by omega:2^k≠0)
   rw [Rat.mkRat_eq_div,Rat.mkRat_eq_div,Nat.pow_succ,Rat.natCast_mul]
   have e2:((2:Nat):Rat)=2:=rfl
   have e3:((1:Int):Rat)=1:=rfl
   rw [e2,e3]
   generalize ((2^k:Nat):Rat)=y at *
   grind
  show (CP.coin.bind fun b=>if b then halfP k else .pure false).E g=_
  rw [CP.bind_E]
  show ((CP.pure false).E g+(halfP k).E g)/2=_
  rw [ih]
  show (g false+_)/2=_
  generalize mkRat 1 (2^(k+1))=y at *
  rw [←e]
  grind
end
section
def rnQ (q r:Nat):Nat:=if q≤r+r then r+r-q else r+r
def ratO (q:Nat):List Bool→Nat→Option (Bool×Nat)
 | [],r=>if r<q then none else some (true,0)
 | b::x,r=>if r<q then (if b≠decide (q≤r+r)∨rnQ q r=0 then some (decide (q≤r+r)&&!b,1) else (ratO q x (rnQ q r)).map fun a=>(a.1,a.2+1)) else some (true,0)
def ratB (q r:Nat) (g:Bool→Rat):Rat:=(r:Rat)/q*g true+(1-(r:Rat)/q)*g false
def ratD (q:Nat):List Bool→Nat→(Bool→Rat)→Rat
 | [],r,g=>if r<q then ratB q r g else g true
 | b::x,r,g=>if r<q then (if b≠decide (q≤r+r)∨rnQ q r=0 then g (decide (q≤r+r)&&!b) else ratD q x (rnQ q r) g) else g true
theorem rn_lt {q r:Nat} (h:r<q):rnQ q r<q:=by unfold rnQ;split<;>omega
theorem o_18c (q:Nat):∀(x:List Bool) (r:Nat) (a:Bool) (c:Nat),ratO q x r=some (a,c)→c≤x.length∧∀b,ratO q (x++[b]) r=some (a,c)
 | [],r,a,c,h=>by
  unfold ratO at h
  split at h
  ·cases h
  ·rename_i hr
   cases h
   exact ⟨Nat.zero_le _,fun b=>by simp [ratO,hr]⟩
 | b'::x,r,a,c,h=>by
  unfold ratO at h
  rw [List.length_cons]
  split at h
  ·rename_i hr
   split at h
   ·rename_i hd
    cases h
    exact ⟨by omega,fun b=>by rw [List.cons_append];unfold ratO;rw [if_pos hr,if_pos hd]⟩
   ·rename_i hd
    obtain ⟨⟨a',c'⟩,h1,h2⟩:=Option.map_eq_some_iff.1 h
    cases h2
    obtain ⟨h3,h4⟩:=o_18c q x _ _ _ h1
    exact ⟨by simp only;omega,fun b=>by rw [List.cons_append];unfold ratO;rw [if_pos hr,if_neg hd,h4 b];rfl⟩
  ·rename_i hr
   cases h
   exact ⟨by omega,fun b=>by rw [List.cons_append];unfold ratO;rw [if_neg hr]⟩
theorem o_18d (q:Nat):∀(x:List Bool) (b:Bool) (r:Nat) (a:Bool) (c:Nat),ratO q x r=none→ratO q (x++[b]) r=some (a,c)→c=x.length+1
 | [],b,r,a,c,h,h'=>by
  unfold ratO at h
  split at h
  ·rename_i hr
   rw [List.nil_append] at h'
   unfold ratO at h'
   rw [if_pos hr] at h'
   split at h'
   ·cases h';rfl
   ·obtain ⟨⟨a',c'⟩,h1,h2⟩:=Option.map_eq_some_iff.1 h'
    unfold ratO at h1
    rw [if_pos (rn_lt hr)] at h1
    cases h1
  ·cases h
 | b'::x,b,r,a,c,h,h'=>by
  rw [List.cons_append] at h'
  unfold ratO at h h'
  split at h
  ·rename_i hr
   rw [if_pos hr] at h'
   split at h
   ·cases h
   ·rename_i hd
    rw [if_neg hd] at h'
    obtain ⟨⟨a',c'⟩,h1,h2⟩:=Option.map_eq_some_iff.1 h'
    cases h2
    have:=o_18d q x b _ _ _ (Option.map_eq_none_iff.1 h) h1
    simp only [List.length_cons];omega
  ·cases h
theorem o_18e (q:Nat):∀(x:List Bool) (r:Nat) (a:Bool) (c:Nat) (g:Bool→Rat),ratO q x r=some (a,c)→ratD q x r g=g a
 | [],r,a,c,g,h=>by
  unfold ratO at h
  unfold ratD
  split at h
  ·cases h
  ·rename_i hr
   cases h
   rw [if_neg hr]
 | b::x,r,a,c,g,h=>by
  unfold ratO at h
  unfold ratD
  split at h
  ·rename_i hr
   rw [if_pos hr]
   split at h
   ·rename_i hd
    cases h
    rw [if_pos hd]
   ·rename_i hd
    rw [if_neg hd]
    obtain ⟨⟨a',c'⟩,h1,h2⟩:=Option.map_eq_some_iff.1 h
    cases h2
    exact o_18e q x _ _ _ g h1
  ·rename_i hr
   cases h
   rw [if_neg hr]
theorem o_18f {q r:Nat} (hr:r<q) (g:Bool→Rat) (b:Bool):ratD q [b] r g=if b=decide (q≤r+r) then ratB q (rnQ q r) g else g (decide (q≤r+r)&&!b):=by
 unfold ratD
 rw [if_pos hr]
 have e0:rnQ q r=0→ratB q (rnQ q r) g=g false:=fun h=>by
  unfold ratB
  rw [h]
  have:((0:Nat):Rat)=0:=rfl
  rw [this,Rat.div_def,Rat.zero_mul]
  grind
 by_cases hb:b=decide (q≤r+r)
 ·rw [if_pos hb]
  by_cases h0:rnQ q r=0
  ·rw [if_pos (.inr h0),e0 h0,←hb]
   cases b<;>rfl
  ·rw [if_neg (by simp [hb,h0])]
   unfold ratD
   rw [if_pos (rn_lt hr)]
 ·rw [if_neg hb,if_pos (.inl hb)]
theorem o_18g {q r:Nat} (hr:r<q) (g:Bool→Rat):2*ratB q r g=ratD q [false] r g+ratD q [true] r g:=by
 rw [o_18f hr,o_18f hr]
 have hq:((q:Nat):Rat)≠0:=by
  intro h
  have:q=0:=by exact_mod_cast h
  omega
 by_cases ht:q≤r+r
 ·have e:(rnQ q r:Rat)=r+r-q:=by
   have:rnQ q r+q=r+r:=by unfold rnQ;rw [if_pos ht];omega
   have h2:=congrArg (fun n:Nat=>(n:Rat)) this
   simp only [Rat.natCast_add] at h2
   grind
  simp only [ht,decide_true,Bool.true_and,if_true]
  unfold ratB
  rw [e]
  simp
  grind
 ·have e:(rnQ q r:Rat)=r+r:=by
   have:rnQ q r=r+r:=by unfold rnQ;rw [if_neg ht]
   rw [this,Rat.natCast_add]
  simp only [ht,decide_false,Bool.false_and,if_true]
  unfold ratB
  rw [e]
  simp
  grind
theorem o_18h (q:Nat):∀(x:List Bool) (r:Nat) (g:Bool→Rat),ratO q x r=none→2*ratD q x r g=ratD q (x++[false]) r g+ratD q (x++[true]) r g
 | [],r,g,h=>by
  unfold ratO at h
  split at h
  ·rename_i hr
   rw [List.nil_append,List.nil_append,←o_18g hr]
   unfold ratD
   rw [if_pos hr]
  ·cases h
 | b::x,r,g,h=>by
  unfold ratO at h
  rw [List.cons_append,List.cons_append]
  unfold ratD
  split at h
  ·rename_i hr
   split at h
   ·cases h
   ·rename_i hd
    simp only [if_pos hr,if_neg hd]
    exact o_18h q x _ g (Option.map_eq_none_iff.1 h)
  ·cases h
theorem o_18i {q r:Nat} (hr:r<q) (g:Bool→Rat) (h:∀a,0≤g a∧g a≤1):0≤ratB q r g∧ratB q r g≤1:=by
 have hq:(0:Rat)<(q:Rat):=by
  have:((0:Nat):Rat)<(q:Rat):=Rat.natCast_lt_natCast.2 (by omega)
  simpa using this
 have hc:(r:Rat)/q*q=r:=Rat.div_mul_cancel (Rat.ne_of_gt hq)
 have h0:(0:Rat)≤(r:Rat)/q:=by
  have hl:(0:Rat)≤(r:Rat):=Rat.natCast_nonneg
  refine Rat.not_lt.1 fun hn=>?_
  have:=Rat.mul_lt_mul_of_pos_right hn hq
  grind
 have h1:(r:Rat)/q≤1:=by
  have hl:(r:Rat)<(q:Rat):=Rat.natCast_lt_natCast.2 hr
  refine Rat.not_lt.1 fun hn=>?_
  have:=Rat.mul_lt_mul_of_pos_right hn hq
  grind
 unfold ratB
 generalize (r:Rat)/q=y at *
 have ht:=h true
 have hf:=h false
 have a1:=Rat.mul_nonneg h0 ht.1
 have a2:=Rat.mul_nonneg (show (0:Rat)≤1-y by grind) hf.1
 have a3:=Rat.mul_nonneg h0 (show (0:Rat)≤1-g true by grind)
 have a4:=Rat.mul_nonneg (show (0:Rat)≤1-y by grind) (show (0:Rat)≤1-g false by grind)
 constructor<;>grind
theorem o_18j (q:Nat):∀(x:List Bool) (r:Nat) (g:Bool→Rat),(∀a,0≤g a∧g a≤1)→0≤ratD q x r g∧ratD q x r g≤1
 | [],r,g,h=>by
  unfold ratD
  split
  ·rename_i hr
   exact o_18i hr g h
  ·exact h true
 | b::x,r,g,h=>by
  unfold ratD
  split
  ·split
   ·exact h _
   ·exact o_18j q x _ g h
  ·exact h true
def ratP (q r:Nat):CP Bool where
 O x:=ratO q x r
 D x g:=ratD q x r g
 o2 x a c h:=o_18c q x r a c h
 o3 x b a c h h':=o_18d q x b r a c h h'
 d1 x a c g h:=o_18e q x r a c g h
 d2 x g h:=o_18h q x r g h
 d3 x g h:=o_18j q x r g h
theorem o_18k {q r:Nat} (hr:r<q) (g:Bool→Rat):(ratP q r).E g=ratB q r g:=by
 show ratD q [] r g=_
 unfold ratD
 rw [if_pos hr]
theorem o_18l (q:Nat):∀(f r:Nat) (cs:List Bool) (p:Nat),p≤cs.length→cs.length+1≤f+p→(match ratO q (cs.drop p) r with
 | some (a,c)=>ratioR cs q f r p false=(a,0,p+c,false)
 | none=>(ratioR cs q f r p false).2.1=8)
 | 0,r,cs,p,hp,hf=>by omega
 | f+1,r,cs,p,hp,hf=>by
  have hF:ratioR cs q (f+1) r p false=if r<q then
   if (flipR cs p false).2.1=0 then
    if (flipR cs p false).1≠decide (q≤r+r)∨rnQ q r=0 then (decide (q≤r+r)&&!(flipR cs p false).1,0,(flipR cs p false).2.2.1,(flipR cs p false).2.2.2)
    else ratioR cs q f (rnQ q r) (flipR cs p false).2.2.1 (flipR cs p false).2.2.2
   else (false,(flipR cs p false).2.1,(flipR cs p false).2.2.1,(flipR cs p false).2.2.2)
  else (true,0,p,false):=rfl
  rw [hF]
  by_cases hr:r<q
  ·rw [if_pos hr]
   cases hx:cs.drop p with
   | nil =>
    rw [o_187 (o_189 hp hx)]
    simp [ratO,hr]
   | cons b x =>
    obtain ⟨h1,h2,h3⟩:=o_188 hx
    rw [h1]
    simp only [ratO,if_pos hr,if_true]
    by_cases hd:b≠decide (q≤r+r)∨rnQ q r=0
    ·simp only [if_pos hd]
    ·simp only [if_neg hd]
     have ih:=o_18l q f (rnQ q r) cs (p+1) h2 (by omega)
     rw [h3] at ih
     cases ho:ratO q x (rnQ q r) with
     | none=>rw [ho] at ih;exact ih
     | some ac =>
      obtain ⟨a,c⟩:=ac
      rw [ho] at ih
      simp only [Option.map_some] at ih ⊢
      rw [ih]
      simp;omega
  ·rw [if_neg hr]
   have:ratO q (cs.drop p) r=some (true,0):=by
    cases cs.drop p<;>simp [ratO,hr]
   rw [this]
   simp
theorem o_18m (q r:Nat) (h0:r≠0):Runs (fun cs p d=>ratioA cs r q p d) (ratP q r):=fun cs p hp=>by
 have:=o_18l q (cs.length+1-p) r cs p hp (by omega)
 simp only [ratioA,if_neg h0]
 rw [show (ratP q r).O (cs.drop p)=ratO q (cs.drop p) r from rfl]
 cases ho:ratO q (cs.drop p) r with
 | none=>rw [ho] at this;exact this
 | some ac =>
  obtain ⟨a,c⟩:=ac
  rw [ho] at this
  exact this
end
section
theorem o_18n {α β:Type} {F:List Bool→Nat→Bool→α×Int×Nat×Bool} {f:CP α} (hf:Runs F f) {G:α→List Bool→Nat→Bool→β×Int×Nat×Bool} {k:α→CP β} (hk:∀a,Runs (G a) (k a)) {H:List Bool→Nat→Bool→β×Int×Nat×Bool}
  (h1:∀cs p,p≤cs.length→(F cs p false).2.1=0→H cs p false=G (F cs p false).1 cs (F cs p false).2.2.1 (F cs p false).2.2.2)
  (h2:∀cs p,p≤cs.length→(F cs p false).2.1=8→(H cs p false).2.1=8):Runs H (f.bind k):=fun cs p hp=>by
 have hr:=hf cs p hp
 cases ho:f.O (cs.drop p) with
 | none =>
  rw [ho] at hr
  rw [CP.bind_Z f k ho]
  exact h2 cs p hp hr
 | some ac =>
  obtain ⟨a,c⟩:=ac
  rw [ho] at hr
  simp only at hr
  have e:=h1 cs p hp (by rw [hr])
  rw [hr] at e
  simp only at e
  have hc:=(f.o2 _ _ _ ho).1
  rw [List.length_drop] at hc
  have hk2:=hk a cs (p+c) (by omega)
  rw [CP.bind_O f k ho,List.drop_drop,e]
  cases h3:(k a).O (cs.drop (p+c)) with
  | none=>rw [h3] at hk2;exact hk2
  | some bd =>
   obtain ⟨b,d⟩:=bd
   rw [h3] at hk2
   simp only [Option.map_some] at hk2 ⊢
   rw [hk2,Nat.add_assoc]
theorem o_18o {α:Type} (a:α):Runs (fun _ p d=>(a,0,p,d)) (.pure a):=fun cs p hp=>rfl
theorem o_18p (cs:List Bool) (q:Nat):∀(f r p:Nat) (d:Bool),(ratioR cs q f r p d).1=true→(ratioR cs q f r p d).2.1=0
 | 0,r,p,d,h=>rfl
 | f+1,r,p,d,h=>by
  unfold ratioR at h ⊢
  split
  ·rename_i h1
   rw [if_pos h1] at h
   split
   ·rename_i h2
    rw [if_pos h2] at h
    by_cases h3:flipB cs p d≠decide (q≤r+r)∨(if q≤r+r then r+r-q else r+r)=0
    ·rw [if_pos h3]
    ·rw [if_neg h3] at h ⊢
     exact o_18p cs q f _ _ _ h
   ·rename_i h2
    rw [if_neg h2] at h
    cases h
  ·rfl
def powP (q a:Nat):Nat→CP Bool
 | 0=>.pure true
 | k+1=>(ratP q a).bind fun b=>if b then powP q a k else .pure false
theorem o_18q (q a:Nat) (h0:a≠0):∀k,Runs (fun cs p d=>powerR cs a q k p d) (powP q a k)
 | 0=>fun cs p hp=>rfl
 | k+1=>by
  refine o_18n (o_18m q a h0) (G:=fun b cs p d=>if b then powerR cs a q k p d else (false,0,p,d)) (fun b=>?_) (fun cs p hp he=>?_) fun cs p hp he=>?_
  ·cases b with
   | false=>exact o_18o false
   | true=>exact o_18q q a h0 k
  ·show (if _ then _ else _)=_
   cases hb:(ratioA cs a q p false).1 with
   | true=>rfl
   | false =>
    show ratioA cs a q p false=_
    simp only [Bool.false_eq_true,if_false]
    exact Prod.ext hb (Prod.ext he rfl)
  ·cases hb:(ratioA cs a q p false).1 with
   | true =>
    exfalso
    unfold ratioA at hb he
    rw [if_neg h0] at hb he
    rw [o_18p _ _ _ _ _ _ hb] at he
    cases he
   | false =>
    unfold powerR
    rw [hb]
    exact he
theorem pow_E {q a:Nat} (hr:a<q) (g:Bool→Rat):∀k,(powP q a k).E g=((a:Rat)/q)^k*g true+(1-((a:Rat)/q)^k)*g false
 | 0=>by
  show g true=_
  rw [Rat.pow_zero]
  grind
 | k+1=>by
  have ih:=pow_E hr g k
  show ((ratP q a).bind fun b=>if b then powP q a k else .pure false).E g=_
  rw [CP.bind_E,o_18k hr]
  unfold ratB
  show _*(powP q a k).E g+_*g false=_
  rw [ih,Rat.pow_succ]
  generalize (a:Rat)/q=y at *
  grind
end
section
theorem o_18r {g h:St→Rat} (e:∀s,g s=h s) (l:Sp):exQ g l=exQ h l:=by
 have:g=h:=funext e
 rw [this]
theorem o_18s (next:St→Sp):∀(n:Nat) (g:St→Rat) (s:St),exQ g (ofQ next s (n+1))=exQ (fun t=>exQ g (ofQ next t n)) (next s)
 | 0,g,s=>by
  show exQ g (timesQ next [(s,1)])=exQ (fun t=>exQ g [(t,1)]) (next s)
  rw [o_131]
  have e:∀t:St,exQ g [(t,1)]=g t:=fun t=>by simp only [exQ];grind
  rw [o_18r e]
  simp only [exQ];grind
 | n+1,g,s=>by
  show exQ g (timesQ next (ofQ next s (n+1)))=exQ (fun t=>exQ g (timesQ next (ofQ next t n))) (next s)
  rw [o_131,o_18s next n (fun t=>exQ g (next t)) s]
  exact o_18r (fun t=>(o_131 g next _).symm) _
def addP (sp:Nat→CP Bool) (top:Nat):Nat→Nat→Bool→CP (Nat×Bool)
 | 0,x,f=>.pure (x,f)
 | n+1,x,f=>if x=top then .pure (x,true) else (sp x).bind fun b=>if f=true∧(if b then x+1 else x)=top then .pure (top,f) else addP sp top n (if b then x+1 else x) f
theorem o_18t (top:Nat) (c:Nat→Rat) (g:St→Rat):∀n,exQ g (ofQ (stepQ top c) (top,0,true) n)=g (top,0,true)
 | 0=>by simp only [ofQ,exQ];grind
 | n+1=>by
  rw [o_18s,(o_133 _ top c (top,0,true)).2,if_pos rfl]
  exact o_18t top c g n
theorem o_18u {sp:Nat→CP Bool} {top:Nat} {c:Nat→Rat} (hs:∀x,x<top→∀g,(sp x).E g=c x*g true+(1-c x)*g false) (g:Nat×Bool→Rat):∀(n x:Nat) (f:Bool),x≤top→(f=true→x=top)→(addP sp top n x f).E g=exQ (fun s=>g (s.1,s.2.2)) (ofQ (stepQ top c) (x,0,f) n)
 | 0,x,f,hx,hf=>by
  show g (x,f)=_
  simp only [ofQ,exQ];grind
 | n+1,x,f,hx,hf=>by
  rw [o_18s,(o_133 _ top c (x,0,f)).2]
  unfold addP
  by_cases h:x=top
  ·subst h
   rw [if_pos rfl,if_pos rfl]
   exact (o_18t x c (fun s=>g (s.1,s.2.2)) n).symm
  ·have hf0:f=false:=by
    cases f with
    | false=>rfl
    | true=>exact absurd (hf rfl) h
   subst hf0
   rw [if_neg h,if_neg h,CP.bind_E,hs x (by omega)]
   have h1:=o_18u hs g n (x+1) false (by omega) (by simp)
   have h2:=o_18u hs g n x false hx (by simp)
   simp only [Bool.false_eq_true,false_and,if_false,if_true]
   rw [h1,h2]
def addH (st:List Bool→StepT) (top n x:Nat) (f:Bool) (cs:List Bool) (p:Nat) (d:Bool):(Nat×Bool)×Int×Nat×Bool:=(((addL (st cs) top n x f p d).2.1,(addL (st cs) top n x f p d).2.2.1),(addL (st cs) top n x f p d).1,(addL (st cs) top n x f p d).2.2.2.1,(addL (st cs) top n x f p d).2.2.2.2)
theorem o_18v {st:List Bool→StepT} {sp:Nat→CP Bool} {top:Nat} (h:∀x,x<top→Runs (fun cs p d=>st cs x p d) (sp x)):∀(n x:Nat) (f:Bool),x≤top→Runs (addH st top n x f) (addP sp top n x f)
 | 0,x,f,hx=>fun cs p hp=>rfl
 | n+1,x,f,hx=>by
  unfold addP
  by_cases hxt:x=top
  ·rw [if_pos hxt]
   intro cs p hp
   show addH st top (n+1) x f cs p false=((x,true),0,p+0,false)
   unfold addH addL
   rw [if_pos hxt]
   rfl
  ·rw [if_neg hxt]
   refine o_18n (h x (by omega)) (G:=fun b cs p d=>if f=true∧(if b then x+1 else x)=top then ((top,f),0,p,d) else addH st top n (if b then x+1 else x) f cs p d) (fun b=>?_) (fun cs p hp he=>?_) fun cs p hp he=>?_
   ·by_cases hb:f=true∧(if b then x+1 else x)=top
    ·simp only [if_pos hb]
     exact o_18o (top,f)
    ·simp only [if_neg hb]
     exact o_18v h n _ f (by split<;>omega)
   ·unfold addH
    rw [addL,if_neg hxt,if_pos he]
    by_cases hb:f=true∧(if (st cs x p false).1 then x+1 else x)=top
    ·rw [if_pos hb,if_pos hb]
    ·rw [if_neg hb,if_neg hb]
   ·unfold addH
    rw [addL,if_neg hxt,if_neg (by rw [he];decide)]
    exact he
end
section
def stP (k a x:Nat):CP Bool:=if k=1 then powP (a+1) a x else halfP (expOf k a x)
theorem stP_E (k a x:Nat) (g:Bool→Rat):(stP k a x).E g=chP k a x*g true+(1-chP k a x)*g false:=by
 unfold stP chP
 split
 ·rw [pow_E (Nat.lt_succ_self a) g x]
  have e:chM a x=((a:Rat)/((a+1:Nat):Rat))^x:=by
   unfold chM
   rw [Rat.mkRat_eq_div]
   rfl
  rw [e]
 ·exact o_18b g _
theorem o_18w {k a w x:Nat} (h:GoodS k a w) (hx:x≤15) (cs:List Bool) (p:Nat) (d:Bool):stOf cs k a x p d=if k=1 then powerR cs a (a+1) x p d else halfR cs (expOf k a x) p d:=by
 obtain ⟨h,h1,h2⟩:=h
 have o1:okK (x:Int)=true:=by simp [okK];omega
 rcases h with ⟨rfl,h3,h4⟩ | ⟨rfl,h3⟩ | ⟨rfl,h3,h4⟩
 ·have e:wrongM (a:Int) [(x:Int)]=0:=by unfold wrongM;rw [if_pos (by omega)];simp [o1]
  simp only [stOf,stepM,e,if_true,Int.toNat_natCast]
  simp
 ·have e:wrongZ (a:Int) [(x:Int)]=0:=by unfold wrongZ;rw [if_pos (by omega)];simp [o1]
  simp only [stOf,stepG,e,if_true,Int.toNat_natCast,expOf]
  simp
 ·have e:atE (a:Int) (x:Int)=0:=by unfold atE;rw [if_pos (by omega),if_pos (by omega)]
  simp only [stOf,stepYG,atP,e,if_true,Int.toNat_natCast,expOf]
  simp
theorem o_18x {k a w x:Nat} (h:GoodS k a w) (hx:x≤15):Runs (fun cs p d=>stOf cs k a x p d) (stP k a x):=fun cs p hp=>by
 have ha:k=1→a≠0:=fun hk=>by
  obtain ⟨h,-,-⟩:=h
  omega
 simp only [o_18w h hx]
 unfold stP
 by_cases hk:k=1
 ·simp only [if_pos hk]
  exact o_18q (a+1) a (ha hk) x cs p hp
 ·simp only [if_neg hk]
  exact o_18a (expOf k a x) cs p hp
end
section
open Go.RowKit
abbrev Wm:=List (St×Nat)
def wnC (p:St×Nat):List D:=stD p.1++[.int .i64 p.2]
def spN (l:Wm):List D:=l.flatMap wnC
def getN (s:St):Wm→Nat
 | []=>0
 | p::r=>if s=p.1 then p.2 else getN s r
def setN (l:Wm) (s:St) (v:Nat):Wm:=match l with
 | []=>[(s,v)]
 | p::r=>if s=p.1 then (s,v)::r else p::setN r s v
def touN (l:Wm) (s:St):Wm:=match l with
 | []=>[(s,0)]
 | p::r=>if s=p.1 then p::r else p::touN r s
def addN (l:Wm) (s:St) (w:Nat):Wm:=setN l s (getN s l+w)
def walkN (ask:List Bool→St×Int):Nat→List Bool→Wm×Nat→Wm×Nat
 | 0,pre,(L,op)=>if (ask pre).2=0 then (addN L (ask pre).1 1,op) else (L,op+1)
 | d+1,pre,(L,op)=>if (ask pre).2=8 then walkN ask d (pre++[true]) (walkN ask d (pre++[false]) (L,op))
  else if (ask pre).2=0 then (addN L (ask pre).1 (2^(d+1)),op) else (L,op+2^(d+1))
theorem o_18y (s t:St) (v:Nat):∀l:Wm,getN t (setN l s v)=if t=s then v else getN t l
 | []=>by simp [setN,getN]
 | p::r=>by
  unfold setN
  split
  ·rename_i e
   unfold getN
   by_cases h:t=s
   ·simp [h]
   ·simp [h,show ¬t=p.1 from fun h'=>h (h'.trans e.symm)]
  ·rename_i e
   unfold getN
   rw [o_18y s t v r]
   by_cases h:t=s
   ·subst h;simp [e]
   ·simp [h]
theorem o_18z {ask:List Bool→St×Int}:∀(d:Nat) (pre:List Bool) (X:Wm×Nat),(walkN ask d pre X).2≤X.2+2^d∧∀s,getN s (walkN ask d pre X).1≤getN s X.1+2^d
 | 0,pre,(L,op)=>by
  unfold walkN
  split
  ·refine ⟨by simp,fun s=>?_⟩
   simp only [addN,o_18y]
   split
   ·rename_i h;subst h;simp
   ·omega
  ·exact ⟨by simp,fun s=>by simp⟩
 | d+1,pre,(L,op)=>by
  have hp:=Nat.two_pow_pos d
  have e2:2^(d+1)=2^d+2^d:=by rw [Nat.pow_succ];omega
  unfold walkN
  split
  ·obtain ⟨h1,h2⟩:=o_18z (ask:=ask) d (pre++[false]) (L,op)
   obtain ⟨h3,h4⟩:=o_18z (ask:=ask) d (pre++[true]) (walkN ask d (pre++[false]) (L,op))
   refine ⟨by simp only at h1;omega,fun s=>?_⟩
   have:=h2 s
   have:=h4 s
   simp only at *
   omega
  ·split
   ·refine ⟨by simp,fun s=>?_⟩
    simp only [addN,o_18y]
    split
    ·rename_i h;subst h;omega
    ·omega
   ·exact ⟨by simp,fun s=>by simp only;omega⟩
end
section
open Go.RowKit
theorem map_set {n k:Nat} {f:Nat→V} {x:V}:((List.range n).map f).set k x=(List.range n).map fun s=>if s=k then x else f s:=by
 apply List.ext_getElem?
 intro i
 rw [List.getElem?_set,List.getElem?_map,List.getElem?_map]
 by_cases h:i<n
 ·rw [List.getElem?_range h]
  by_cases e:k=i
  ·subst e;simp [h]
  ·simp [e,show ¬i=k from fun e'=>e e'.symm]
 ·rw [List.getElem?_eq_none (by simpa using h)]
  simp
  omega
theorem map_id {T:List V}:(List.range T.length).map (fun s=>T.getD s .junk)=T:=by
 apply List.ext_getElem?
 intro i
 rw [List.getElem?_map]
 by_cases h:i<T.length
 ·rw [List.getElem?_range h];simp [List.getD_eq_getElem?_getD,h]
 ·rw [List.getElem?_eq_none (by simpa using h),List.getElem?_eq_none (by omega)];rfl
section
variable (T:List V) (s1 s2:Nat) (s3:Bool) (Lm:Wm) (w:Nat)
def hW (H:List (Option Ob)) (S:Nat→Bool):List (Option Ob):=H.set 5 (some ⟨1000386,(spN (if S 7 then addN Lm (s1,s2,s3) w else if S 5 then touN Lm (s1,s2,s3) else Lm)).map .d⟩)
end
end
section
open Go.RowKit
end
section
open Go.RowKit
end
section
open Go.RowKit
end
section
open Go.RowKit
def chs:Nat→Nat→Nat
 | _,0=>1
 | 0,_+1=>0
 | n+1,k+1=>chs n k+chs n (k+1)
theorem chs_z (n:Nat):chs n 0=1:=by cases n<;>rfl
theorem o_190:∀{n k:Nat},n<k→chs n k=0
 | 0,k+1,_=>rfl
 | n+1,k+1,h=>by
  show chs n k+chs n (k+1)=0
  rw [o_190 (by omega),o_190 (by omega)]
theorem o_191:∀n k:Nat,chs n k≤2^n
 | n,0=>by rw [chs_z];exact Nat.two_pow_pos n
 | 0,k+1=>Nat.zero_le _
 | n+1,k+1=>by
  have h1:=o_191 n k
  have h2:=o_191 n (k+1)
  show chs n k+chs n (k+1)≤2^(n+1)
  rw [Nat.pow_succ];omega
theorem o_192:∀n k:Nat,k≤n→chs n (k+1)*(k+1)=chs n k*(n-k)
 | 0,k,h=>by
  have:k=0:=by omega
  subst this;rfl
 | n+1,0,_=>by
  have h:=o_192 n 0 (Nat.zero_le _)
  show (chs n 0+chs n 1)*1=chs (n+1) 0*(n+1)
  rw [chs_z] at h ⊢
  rw [chs_z]
  simp at h ⊢
  omega
 | n+1,k+1,h=>by
  have h1:=o_192 n k (by omega)
  show (chs n (k+1)+chs n (k+2))*(k+2)=(chs n k+chs n (k+1))*(n+1-(k+1))
  rw [show n+1-(k+1)=n-k by omega,Nat.add_mul (chs n k),←h1]
  rcases Nat.lt_or_ge k n with h3 | h3
  ·have h2:=o_192 n (k+1) (by omega)
   rw [Nat.add_mul,h2,←Nat.mul_add,←Nat.mul_add]
   congr 1;omega
  ·have e:k=n:=by omega
   subst e
   rw [o_190 (show k<k+1 by omega),o_190 (show k<k+2 by omega)];simp
def wayQ (K:Nat):Nat→Nat
 | 0=>1
 | k+1=>wayQ K k*(K-k)/(k+1)
theorem o_193 (K:Nat):∀k,k≤K+1→wayQ K k=chs K k
 | 0,_=>(chs_z K).symm
 | k+1,h=>by
  show wayQ K k*(K-k)/(k+1)=_
  rw [o_193 K k (by omega),←o_192 K k (by omega),Nat.mul_div_cancel _ (by omega)]
def binP (K k:Nat):Rat:=((wayQ K k:Nat):Rat)*mkRat 1 (2^K)
def binI (s:St):Nat→Sp
 | 0=>[]
 | i+1=>addQ (binI s i) (i,s.2.1+1,s.2.2) (binP s.1 i)
def binQ (s:St):Sp:=binI s (s.1+1)
def bex:Nat→(Nat→Rat)→Rat
 | 0,g=>g 0
 | n+1,g=>mkRat 1 2*(bex n g+bex n fun k=>g (k+1))
def csum (n:Nat) (g:Nat→Rat):Nat→Rat
 | 0=>0
 | i+1=>csum n g i+((chs n i:Nat):Rat)*g i
theorem o_194 (n:Nat) (g:Nat→Rat):∀i,csum (n+1) g (i+1)=g 0+csum n (fun k=>g (k+1)) i+(csum n g (i+1)-g 0)
 | 0=>by
  simp only [csum,chs_z]
  have:((1:Nat):Rat)=1:=rfl
  rw [this];grind
 | i+1=>by
  have ih:=o_194 n g i
  rw [csum,ih]
  have e1:csum n g (i+1+1)=csum n g (i+1)+((chs n (i+1):Nat):Rat)*g (i+1):=rfl
  have e2:csum n (fun k=>g (k+1)) (i+1)=csum n (fun k=>g (k+1)) i+((chs n i:Nat):Rat)*g (i+1):=rfl
  have e3:((chs (n+1) (i+1):Nat):Rat)=((chs n i:Nat):Rat)+((chs n (i+1):Nat):Rat):=by
   rw [←Rat.natCast_add];rfl
  rw [e1,e2,e3];grind
theorem o_195 (n:Nat):(mkRat 1 (2^n))*((2^n:Nat):Rat)=1:=by
 rw [Rat.mkRat_eq_div]
 exact Rat.div_mul_cancel (o_14y (Nat.two_pow_pos n))
theorem o_196 (n:Nat):mkRat 1 (2^(n+1))=mkRat 1 2*mkRat 1 (2^n):=by
 rw [Rat.mkRat_mul_mkRat,Nat.pow_succ,Nat.mul_comm];rfl
theorem o_197:∀(n:Nat) (g:Nat→Rat),csum n g (n+1)*mkRat 1 (2^n)=bex n g
 | 0,g=>by
  simp only [csum,bex,chs_z]
  have:((1:Nat):Rat)=1:=rfl
  rw [this,show mkRat 1 (2^0)=1 from rfl];grind
 | n+1,g=>by
  have h1:=o_197 n g
  have h2:=o_197 n fun k=>g (k+1)
  show _=mkRat 1 2*(bex n g+bex n fun k=>g (k+1))
  rw [←h1,←h2,o_194,o_196]
  have e1:csum n g (n+1+1)=csum n g (n+1):=by
   show csum n g (n+1)+((chs n (n+1):Nat):Rat)*g (n+1)=_
   rw [o_190 (by omega)]
   have:((0:Nat):Rat)=0:=rfl
   rw [this];grind
  rw [e1];grind
theorem o_198 {s:St}:∀i,∀p∈binI s i,p.1.1<i∧p.1.2=(s.2.1+1,s.2.2)
 | 0,p,hp=>by cases hp
 | i+1,p,hp=>by
  rcases o_134 hp with hp | rfl
  ·have:=o_198 i p hp
   exact ⟨by omega,this.2⟩
  ·exact ⟨by simp,rfl⟩
theorem o_199 (s:St):∀i,Uq (binI s i)
 | 0=>by simp [binI,Uq]
 | i+1=>o_12m (o_199 s i)
theorem o_19a (s:St) (g:St→Rat):∀i,i≤s.1+1→exQ g (binI s i)=csum s.1 (fun k=>g (k,s.2.1+1,s.2.2)) i*mkRat 1 (2^s.1)
 | 0,_=>by simp only [binI,exQ,csum];grind
 | i+1,h=>by
  show exQ g (addQ (binI s i) _ _)=_
  rw [o_12n g _ _ _ (o_199 s i),o_19a s g i (by omega)]
  unfold binP
  rw [o_193 _ _ (by omega)]
  simp only [csum];grind
theorem o_19b (s:St) (g:St→Rat):exQ g (binQ s)=bex s.1 fun k=>g (k,s.2.1+1,s.2.2):=by
 unfold binQ
 rw [o_19a s g _ (Nat.le_refl _),o_197]
theorem o_19c (c:Rat):∀n,bex n (fun _=>c)=c
 | 0=>rfl
 | n+1=>by
  show mkRat 1 2*(bex n (fun _=>c)+bex n fun _=>c)=c
  rw [o_19c c n]
  have h:mkRat 1 2*2=1:=by decide +kernel
  grind
end
section
open Go.RowKit
def Gi (e:Nat) (q:Rat):Prop:=∃z:Nat,q*((2^e:Nat):Rat)=(z:Rat)
theorem Gi.nn {e:Nat} {q:Rat} (h:Gi e q):0≤q:=by
 obtain ⟨z,h⟩:=h
 have hp:(0:Rat)<((2^e:Nat):Rat):=by exact_mod_cast Nat.two_pow_pos e
 apply Classical.byContradiction
 intro hn
 have hz:(0:Rat)≤(z:Rat):=by exact_mod_cast Nat.zero_le z
 have:=Rat.mul_lt_mul_of_pos_right (Rat.not_le.1 hn) hp
 grind
theorem Gi.zero (e:Nat):Gi e 0:=⟨0,by rw [Rat.zero_mul];rfl⟩
theorem Gi.one (e:Nat):Gi e 1:=⟨2^e,by rw [Rat.one_mul]⟩
theorem Gi.add {e:Nat} {x y:Rat} (hx:Gi e x) (hy:Gi e y):Gi e (x+y):=by
 obtain ⟨z,h1⟩:=hx
 obtain ⟨w,h2⟩:=hy
 refine ⟨z+w,?_⟩
 rw [Rat.natCast_add,←h1,←h2];grind
theorem Gi.mul {e f:Nat} {x y:Rat} (hx:Gi e x) (hy:Gi f y):Gi (e+f) (x*y):=by
 obtain ⟨z,h1⟩:=hx
 obtain ⟨w,h2⟩:=hy
 refine ⟨z*w,?_⟩
 rw [Rat.natCast_mul,←h1,←h2,Nat.pow_add,Rat.natCast_mul];grind
theorem Gi.up {e f:Nat} {x:Rat} (h:Gi e x) (hf:e≤f):Gi f x:=by
 have:=h.mul (Gi.one (f-e))
 rw [Rat.mul_one,show e+(f-e)=f by omega] at this
 exact this
theorem Gi.gr {e:Nat} {x:Rat} (h:Gi e x) (h1:x≤1):Gr (2^e) 1 x:=by
 obtain ⟨z,h⟩:=h
 refine ⟨z,h,?_⟩
 have hp:(0:Rat)≤((2^e:Nat):Rat):=by exact_mod_cast Nat.zero_le _
 have h2:=Rat.mul_le_mul_of_nonneg_right h1 hp
 rw [h,Rat.one_mul] at h2
 have:z≤2^e:=by exact_mod_cast h2
 omega
structure SpOK (e:Nat) (P:St→Prop) (l:Sp):Prop where
 uq:Uq l
 one:exQ (fun _=>1) l=1
 gi:∀p∈l,Gi e p.2
 ky:kyQ P l
theorem SpOK.nn {e:Nat} {P:St→Prop} {l:Sp} (h:SpOK e P l):∀p∈l,0≤p.2:=fun p hp=>(h.gi p hp).nn
theorem ex_nn {g:St→Rat}:∀{l:Sp},(∀p∈l,0≤p.2)→(∀p∈l,0≤g p.1)→0≤exQ g l
 | [],_,_=>Rat.le_refl
 | p::l,h,hg=>by
  have h1:=ex_nn (l:=l) (g:=g) (fun q hq=>h q (by simp [hq])) (fun q hq=>hg q (by simp [hq]))
  have h2:=Rat.mul_nonneg (h p (by simp)) (hg p (by simp))
  simp only [exQ];grind
theorem o_19d {l:Sp} (h0:∀p∈l,0≤p.2) (h1:exQ (fun _=>1) l≤1):∀p∈l,p.2≤1:=by
 induction l with
 | nil=>intro p hp;cases hp
 | cons q l ih =>
  have h2:0≤exQ (fun _=>(1:Rat)) l:=ex_nn (fun p hp=>h0 p (by simp [hp])) fun _ _=>(by decide:(0:Rat)≤1)
  have h3:=h0 q (by simp)
  simp only [exQ] at h1
  intro p hp
  rcases List.mem_cons.1 hp with rfl | hp
  ·grind
  ·exact ih (fun p hp=>h0 p (by simp [hp])) (by grind) p hp
theorem SpOK.gr {e:Nat} {P:St→Prop} {l:Sp} (h:SpOK e P l):∀p∈l,Gr (2^e) 1 p.2:=fun p hp=>(h.gi p hp).gr (o_19d h.nn (by rw [h.one];exact Rat.le_refl) p hp)
theorem SpOK.nz {e:Nat} {P:St→Prop} {l:Sp} (h:SpOK e P l):nzQ l≠[]:=o_174 h.one
theorem SpOK.mono {e f:Nat} {P Q:St→Prop} {l:Sp} (h:SpOK e P l) (hf:e≤f) (hQ:∀s,P s→Q s):SpOK f Q l:=⟨h.uq,h.one,fun p hp=>(h.gi p hp).up hf,fun p hp=>hQ _ (h.ky p hp)⟩
theorem SpOK.sure {P:St→Prop} (s:St) (hs:P s) (e:Nat):SpOK e P [(s,1)] where
 uq:=by simp [Uq]
 one:=by simp only [exQ];grind
 gi:=fun p hp=>by simp at hp;subst hp;exact Gi.one e
 ky:=fun p hp=>by simp at hp;subst hp;exact hs
theorem o_19e {e:Nat} {l:Sp} (h:∀p∈l,Gi e p.2) (s:St):Gi e (getQ l s):=by
 induction l with
 | nil=>exact Gi.zero e
 | cons p l ih =>
  unfold getQ
  split
  ·exact h p (by simp)
  ·exact ih fun q hq=>h q (by simp [hq])
theorem o_19f {e:Nat} {l:Sp} (h:∀p∈l,Gi e p.2) {s:St} {q:Rat} (hq:Gi e q):∀p∈addQ l s q,Gi e p.2:=by
 intro p hp
 rcases o_134 hp with hp | rfl
 ·exact h p hp
 ·exact (o_19e h s).add hq
theorem o_19g {e f:Nat} {q:Rat} (hq:Gi e q):∀{l out:Sp},(∀p∈out,Gi (e+f) p.2)→(∀p∈l,Gi f p.2)→∀p∈innQ q out l,Gi (e+f) p.2
 | [],out,h,_=>h
 | b::l,out,h,hl=>o_19g hq (out:=addQ out b.1 (q*b.2)) (l:=l) (o_19f h (hq.mul (hl b (by simp)))) fun p hp=>hl p (by simp [hp])
theorem o_19h {e f:Nat} {next:St→Sp} {l:Sp} (h:∀p∈l,Gi e p.2) (hn:∀p∈l,∀q∈next p.1,Gi f q.2):∀p∈timesQ next l,Gi (e+f) p.2:=by
 have key:∀(k out:Sp),(∀p∈out,Gi (e+f) p.2)→(∀p∈k,Gi e p.2∧∀q∈next p.1,Gi f q.2)→∀p∈k.foldl (fun out a=>innQ a.2 out (atQ (next a.1))) out,Gi (e+f) p.2:=by
  intro k
  induction k with
  | nil=>intro out h _;exact h
  | cons a k ih =>
   intro out ho hk
   obtain ⟨h1,h2⟩:=hk a (by simp)
   exact ih _ (o_19g h1 ho fun p hp=>h2 p (List.mem_filter.1 ((o_12v _).mem_iff.1 hp)).1) fun p hp=>hk p (by simp [hp])
 refine key _ _ (fun p hp=>by cases hp) fun p hp=>?_
 have hp':=(List.mem_filter.1 ((o_12v l).mem_iff.1 hp)).1
 exact ⟨h p hp',hn p hp'⟩
theorem o_19i {g h:St→Rat}:∀{l:Sp},(∀p∈l,g p.1=h p.1)→exQ g l=exQ h l
 | [],_=>rfl
 | p::l,hl=>by
  simp only [exQ]
  rw [hl p (by simp),o_19i (l:=l) fun q hq=>hl q (by simp [hq])]
theorem SpOK.times {e f:Nat} {P Q:St→Prop} {next:St→Sp} {l:Sp} (h:SpOK e P l) (hn:∀s,P s→SpOK f Q (next s)):SpOK (e+f) Q (timesQ next l) where
 uq:=o_130 _ _
 one:=by
  rw [o_131,o_19i (h:=fun _=>1) fun p hp=>(hn _ (h.ky p hp)).one]
  exact h.one
 gi:=o_19h h.gi fun p hp=>(hn _ (h.ky p hp)).gi
 ky:=by
  have key:∀(k out:Sp),kyQ Q out→(∀p∈k,P p.1)→kyQ Q (k.foldl (fun out a=>innQ a.2 out (atQ (next a.1))) out):=by
   intro k
   induction k with
   | nil=>intro out h _;exact h
   | cons a k ih =>
    intro out ho hk
    exact ih _ (o_15d ho (ky_at (hn _ (hk a (by simp))).ky)) fun p hp=>hk p (by simp [hp])
  exact key _ _ (fun p hp=>by cases hp) fun p hp=>h.ky p (List.mem_filter.1 ((o_12v l).mem_iff.1 hp)).1
theorem o_19j (n:Nat):Gi n (mkRat 1 (2^n)):=⟨1,o_195 n⟩
theorem o_19k (n:Nat):Gi n (1-mkRat 1 (2^n)):=by
 refine ⟨2^n-1,?_⟩
 have h:=o_195 n
 have h1:=Nat.two_pow_pos n
 have e:((2^n:Nat):Rat)=((2^n-1:Nat):Rat)+((1:Nat):Rat):=by rw [←Rat.natCast_add,Nat.sub_add_cancel h1]
 have e1:((1:Nat):Rat)=1:=rfl
 rw [e1] at e
 grind
theorem SpOK.eit {e:Nat} {P:St→Prop} {x:Rat} {s o:St} (hx:Gi e x) (hy:Gi e (1-x)) (hs:P s) (ho:P o):SpOK e P (eitQ x s o) where
 uq:=(o_132 (fun _=>0) x s o).1
 one:=by rw [(o_132 (fun _=>1) x s o).2];grind
 gi:=o_19f (o_19f (fun p hp=>by cases hp) hx) hy
 ky:=fun p hp=>by
  unfold eitQ at hp
  rcases o_134 hp with hp | rfl
  ·rcases o_134 hp with hp | rfl
   ·cases hp
   ·exact hs
  ·exact ho
theorem SpOK.bin (s:St):SpOK s.1 (fun t=>t.1≤s.1∧t.2=(s.2.1+1,s.2.2)) (binQ s) where
 uq:=o_199 s _
 one:=by rw [o_19b,o_19c]
 gi:=by
  have key:∀i,i≤s.1+1→∀p∈binI s i,Gi s.1 p.2:=by
   intro i
   induction i with
   | zero=>intro _ p hp;cases hp
   | succ i ih =>
    intro hi
    refine o_19f (ih (by omega)) ?_
    have h:=(o_19j s.1)
    obtain ⟨z,hz⟩:=h
    refine ⟨wayQ s.1 i*z,?_⟩
    unfold binP
    rw [Rat.natCast_mul,←hz];grind
  exact key _ (Nat.le_refl _)
 ky:=fun p hp=>by
  have:=o_198 _ p hp
  exact ⟨by omega,this.2⟩
def downF (A:Nat):Nat→St→Sp
 | 0,s=>if s.1≤A then [(s,1)] else [((A,s.2.1,true),1)]
 | f+1,s=>if s.1≤A then [(s,1)] else timesQ (downF A f) (binQ s)
def downA (A B:Nat) (s:St):Sp:=downF A (B-s.2.1) s
theorem o_19l {next next':St→Sp} {l:Sp} (h:∀p∈l,next p.1=next' p.1):timesQ next l=timesQ next' l:=by
 have key:∀(k out:Sp),(∀p∈k,next p.1=next' p.1)→k.foldl (fun out a=>innQ a.2 out (atQ (next a.1))) out=k.foldl (fun out a=>innQ a.2 out (atQ (next' a.1))) out:=by
  intro k
  induction k with
  | nil=>intro out _;rfl
  | cons a k ih =>
   intro out hk
   rw [List.foldl_cons,List.foldl_cons,hk a (by simp)]
   exact ih _ fun p hp=>hk p (by simp [hp])
 exact key _ _ fun p hp=>h p (List.mem_filter.1 ((o_12v l).mem_iff.1 hp)).1
theorem o_19m {A B:Nat} {s:St} (h:s.1≤A):downA A B s=[(s,1)]:=by
 unfold downA
 generalize B-s.2.1=f
 cases f<;>simp [downF,h]
theorem o_19n {A B:Nat} {s:St} (h:¬s.1≤A) (hT:s.2.1=B):downA A B s=[((A,s.2.1,true),1)]:=by
 unfold downA
 rw [show B-s.2.1=0 by omega]
 simp [downF,h]
theorem o_19o {A B:Nat} {s:St} (h:¬s.1≤A) (hT:s.2.1<B):downA A B s=timesQ (downA A B) (binQ s):=by
 have e:downA A B s=timesQ (downF A (B-s.2.1-1)) (binQ s):=by
  unfold downA
  obtain ⟨f,hf⟩:∃f,B-s.2.1=f+1:=⟨B-s.2.1-1,by omega⟩
  rw [hf]
  simp [downF,h]
 rw [e]
 refine o_19l fun p hp=>?_
 have:=(o_198 _ p hp).2
 unfold downA
 rw [this]
 congr 1
def okT (A B:Nat) (s:St):Prop:=s.1≤A∧s.2.1≤B∧(s.2.2=true→s.2.1=B)
theorem SpOK.down {A B X:Nat}:∀(f:Nat) (s:St),s.2.1+f=B→s.1≤X→(s.2.2=true→s.2.1=B)→SpOK (X*f) (okT A B) (downA A B s)
 | 0,s,hT,hX,hf=>by
  by_cases h:s.1≤A
  ·rw [o_19m h];exact SpOK.sure s ⟨h,by omega,hf⟩ _
  ·rw [o_19n h (by omega)];exact SpOK.sure _ ⟨Nat.le_refl _,by simp only;omega,fun _=>by simp only;omega⟩ _
 | f+1,s,hT,hX,hf=>by
  by_cases h:s.1≤A
  ·rw [o_19m h];exact SpOK.sure s ⟨h,by omega,hf⟩ _
  ·rw [o_19o h (by omega)]
   have hb:=(SpOK.bin s).mono hX fun _ h=>h
   have:=hb.times (f:=X*f) (Q:=okT A B) (next:=downA A B) fun t ht=>SpOK.down f t (by rw [ht.2];simp only;omega) (by omega) (fun h2=>by
    rw [ht.2] at h2
    have:=hf h2
    omega)
   refine this.mono ?_ fun _ h=>h
   rw [Nat.mul_add];omega
def stepT (A B:Nat) (s:St):Sp:=timesQ (downA A B) (eitQ (mkRat 1 (2^s.2.1)) (s.1+1,s.2) s)
theorem SpOK.stepT {A B:Nat} {s:St} (h:okT A B s):SpOK (B+(A+1)*B) (okT A B) (stepT A B s):=by
 obtain ⟨h1,h2,h3⟩:=h
 have he:SpOK B (fun t=>t.1≤A+1∧t.2=s.2) (eitQ (mkRat 1 (2^s.2.1)) (s.1+1,s.2) s):=SpOK.eit ((o_19j _).up h2) ((o_19k _).up h2) ⟨by simp only;omega,rfl⟩ ⟨by omega,rfl⟩
 refine he.times fun t ht=>?_
 refine (SpOK.down (A:=A) (X:=A+1) (B-s.2.1) t (by rw [ht.2];omega) ht.1 (by rw [ht.2];exact h3)).mono (Nat.mul_le_mul_left _ (by omega)) fun _ h=>h
theorem SpOK.of {e:Nat} {P:St→Prop} {next:St→Sp} (hn:∀s,P s→SpOK e P (next s)) {s:St} (hs:P s):∀n,SpOK (n*e) P (ofQ next s n)
 | 0=>SpOK.sure s hs _
 | n+1=>by
  have:=(SpOK.of hn hs n).times hn
  rw [Nat.add_mul,Nat.one_mul]
  exact this
def thinQ (s:St) (n:Nat):Sp:=ofQ binQ s n
theorem SpOK.thin (s:St):∀n,SpOK (n*s.1) (fun t=>t.1≤s.1∧t.2=(s.2.1+n,s.2.2)) (thinQ s n)
 | 0=>SpOK.sure s ⟨Nat.le_refl _,rfl⟩ _
 | n+1=>by
  have:=(SpOK.thin s n).times (f:=s.1) (Q:=fun t=>t.1≤s.1∧t.2=(s.2.1+(n+1),s.2.2)) (next:=binQ) fun t ht=>(SpOK.bin t).mono ht.1 fun u hu=>⟨by omega,by rw [hu.2,ht.2];simp only [Nat.add_assoc]⟩
  rw [Nat.add_mul,Nat.one_mul]
  exact this
def joI (f:Bool) (x:St×Rat) (B:Sp) (out:Sp) (j:Nat):Sp:=(B.take j).foldl (fun out y=>addQ out (x.1.1+y.1.1,x.1.2.1,f) (x.2*y.2)) out
def joO (f:Bool) (A B:Sp) (i:Nat):Sp:=(A.take i).foldl (fun out x=>joI f x B out B.length) []
def joQ (f:Bool) (A B:Sp):Sp:=joO f A B A.length
theorem o_19p (f:Bool) (x:St×Rat) (B out:Sp) (j:Nat) (h:j<B.length):joI f x B out (j+1)=addQ (joI f x B out j) (x.1.1+B[j].1.1,x.1.2.1,f) (x.2*B[j].2):=by
 unfold joI;rw [List.take_add_one,List.getElem?_eq_getElem h,Option.toList,List.foldl_append];rfl
theorem o_19q (f:Bool) (A B:Sp) (i:Nat) (h:i<A.length):joO f A B (i+1)=joI f A[i] B (joO f A B i) B.length:=by
 unfold joO;rw [List.take_add_one,List.getElem?_eq_getElem h,Option.toList,List.foldl_append];rfl
def mgT (A B:Nat) (s o:St):Sp:=timesQ (downA A B) (joQ (s.2.2 || o.2.2) (atQ (thinQ s (o.2.1-s.2.1))) (atQ (thinQ o (s.2.1-o.2.1))))
theorem o_19r (g:St→Rat) (f:Bool) (x:St×Rat) (B:Sp):∀(j:Nat) (out:Sp),j≤B.length→Uq out→Uq (joI f x B out j)∧exQ g (joI f x B out j)=exQ g out+x.2*exQ (fun t=>g (x.1.1+t.1,x.1.2.1,f)) (B.take j)
 | 0,out,_,h=>⟨h,by simp only [joI,List.take_zero,List.foldl_nil,exQ];grind⟩
 | j+1,out,hj,h=>by
  obtain ⟨h1,h2⟩:=o_19r g f x B j out (by omega) h
  rw [o_19p f x B out j (by omega)]
  refine ⟨o_12m h1,?_⟩
  rw [o_12n g _ _ _ h1,h2,List.take_add_one,List.getElem?_eq_getElem (by omega:j<B.length),Option.toList,o_12p]
  simp only [exQ];grind
theorem o_19s (g:St→Rat) (f:Bool) (A B:Sp):∀i,i≤A.length→Uq (joO f A B i)∧exQ g (joO f A B i)=exQ (fun s=>exQ (fun t=>g (s.1+t.1,s.2.1,f)) B) (A.take i)
 | 0,_=>by simp [joO,Uq,exQ]
 | i+1,hi=>by
  obtain ⟨h1,h2⟩:=o_19s g f A B i (by omega)
  rw [o_19q f A B i hi]
  obtain ⟨h3,h4⟩:=o_19r g f A[i] B B.length (joO f A B i) (Nat.le_refl _) h1
  refine ⟨h3,?_⟩
  rw [h4,h2,List.take_length,List.take_add_one,List.getElem?_eq_getElem (by omega:i<A.length),Option.toList,o_12p]
  simp only [exQ];grind
theorem o_19t (g:St→Rat) (f:Bool) (A B:Sp):exQ g (joQ f A B)=exQ (fun s=>exQ (fun t=>g (s.1+t.1,s.2.1,f)) B) A:=by
 have:=(o_19s g f A B A.length (Nat.le_refl _)).2
 rw [List.take_length] at this
 exact this
theorem SpOK.at {e:Nat} {P:St→Prop} {l:Sp} (h:SpOK e P l):SpOK e P (atQ l) where
 uq:=uq_at h.uq
 one:=by rw [ex_at];exact h.one
 gi:=fun p hp=>h.gi p (List.mem_filter.1 ((o_12v l).mem_iff.1 hp)).1
 ky:=ky_at h.ky
theorem SpOK.join {e f:Nat} {P Q R:St→Prop} {A B:Sp} {b:Bool} (hA:SpOK e P A) (hB:SpOK f Q B) (hR:∀s t,P s→Q t→R (s.1+t.1,s.2.1,b)):SpOK (e+f) R (joQ b A B) where
 uq:=(o_19s (fun _=>0) b A B A.length (Nat.le_refl _)).1
 one:=by
  rw [o_19t,o_19i (h:=fun _=>1) fun p _=>hB.one]
  exact hA.one
 gi:=by
  have h1:∀(x:St×Rat),x∈A→∀(j:Nat) (out:Sp),j≤B.length→(∀p∈out,Gi (e+f) p.2)→∀p∈joI b x B out j,Gi (e+f) p.2:=by
   intro x hx j
   induction j with
   | zero=>intro out _ h p hp;exact h p (by simpa [joI] using hp)
   | succ j ih =>
    intro out hj h
    rw [o_19p b x B out j (by omega)]
    exact o_19f (ih out (by omega) h) ((hA.gi x hx).mul (hB.gi _ (List.getElem_mem _)))
  have h2:∀i,i≤A.length→∀p∈joO b A B i,Gi (e+f) p.2:=by
   intro i
   induction i with
   | zero=>intro _ p hp;simp [joO] at hp
   | succ i ih =>
    intro hi
    rw [o_19q b A B i hi]
    exact h1 _ (List.getElem_mem _) _ _ (Nat.le_refl _) (ih (by omega))
  exact h2 _ (Nat.le_refl _)
 ky:=by
  have h1:∀(x:St×Rat),x∈A→∀(j:Nat) (out:Sp),j≤B.length→kyQ R out→kyQ R (joI b x B out j):=by
   intro x hx j
   induction j with
   | zero=>intro out _ h p hp;exact h p (by simpa [joI] using hp)
   | succ j ih =>
    intro out hj h
    rw [o_19p b x B out j (by omega)]
    intro p hp
    rcases o_134 hp with hp | rfl
    ·exact ih out (by omega) h p hp
    ·exact hR _ _ (hA.ky x hx) (hB.ky _ (List.getElem_mem _))
  have h2:∀i,i≤A.length→kyQ R (joO b A B i):=by
   intro i
   induction i with
   | zero=>intro _ p hp;simp [joO] at hp
   | succ i ih =>
    intro hi
    rw [o_19q b A B i hi]
    exact h1 _ (List.getElem_mem _) _ _ (Nat.le_refl _) (ih (by omega))
  exact h2 _ (Nat.le_refl _)
theorem SpOK.mgT {A B:Nat} {s o:St} (hs:okT A B s) (ho:okT A B o):SpOK (B*A+B*A+(A+A)*B) (okT A B) (mgT A B s o):=by
 obtain ⟨s1,s2,s3⟩:=hs
 obtain ⟨o1,o2,o3⟩:=ho
 have ha:=(SpOK.thin s (o.2.1-s.2.1)).at.mono (f:=B*A) (Nat.mul_le_mul (by omega) s1) fun _ h=>h
 have hb:=(SpOK.thin o (s.2.1-o.2.1)).at.mono (f:=B*A) (Nat.mul_le_mul (by omega) o1) fun _ h=>h
 have hj:=ha.join (R:=fun t=>t.1≤A+A∧t.2=(max s.2.1 o.2.1,s.2.2 || o.2.2)) (b:=s.2.2 || o.2.2) hb fun t u ht hu=>⟨by simp only;omega,by simp only [ht.2,Prod.mk.injEq,and_true];omega⟩
 refine hj.times fun t ht=>?_
 refine (SpOK.down (A:=A) (X:=A+A) (B-max s.2.1 o.2.1) t (by rw [ht.2];simp only;omega) ht.1 (by
  rw [ht.2]
  simp only [Bool.or_eq_true]
  rintro (h | h)
  ·have:=s3 h;omega
  ·have:=o3 h;omega)).mono (Nat.mul_le_mul_left _ (by omega)) fun _ h=>h
end
section
open Go.RowKit
section
variable {V:St→Rat} {l:Sp} (h0:∀p∈l,0≤p.2)
 include h0
end
end
section
open Go.RowKit
theorem o_19u:rD 0 = .agg [natW 0,.bool false,natW 0]:=by rfl
theorem sub_zero:Sub1 (.d (.agg [.nilsl,.bool false,.nilsl])) (.d (rD 0)):=by
 rw [o_19u]
 exact Sub1.aggd (Subs.cons Sub1.nil (Subs.cons (Sub1.refl _) (Subs.cons Sub1.nil (Subs.refl _))))
end
section
open Go.RowKit
end
section
open Go.RowKit
def vlQ (k a w:Nat) (s:St):Rat:=valR k a w s.1 s.2.1
end
section
open Go.RowKit
end
section
open Go.RowKit
end
section
open Go.RowKit
end
section
open Go.RowKit
end
section
open Go.RowKit
end
section
open Go.RowKit
end
section
open Go.RowKit
def grB (D C:Nat) (q:Rat):Bool:=(q*(D:Rat)).den==1&&decide (0≤(q*(D:Rat)).num)&&decide ((q*(D:Rat)).num.toNat≤C*D)
theorem o_19v {D C:Nat} {q:Rat} (h:grB D C q=true):Gr D C q:=by
 unfold grB at h
 simp only [Bool.and_eq_true,beq_iff_eq,decide_eq_true_eq] at h
 obtain ⟨⟨h1,h2⟩,h3⟩:=h
 refine ⟨(q*(D:Rat)).num.toNat,?_,h3⟩
 generalize q*(D:Rat)=y at *
 have h4:((y.num.toNat:Nat):Int)=y.num:=Int.toNat_of_nonneg h2
 refine Rat.ext ?_ ?_
 ·rw [Rat.num_natCast,h4]
 ·rw [Rat.den_natCast,h1]
def valAll:Bool:=[(1,1),(1,2),(1,3),(1,4),(2,0),(2,1),(3,1),(3,2)].all fun z=>(List.range 16).all fun x=>grB (12^15) (2^24) (valC z.1 z.2 x)
theorem o_19w:valAll=true:=by kernel_rfl
theorem o_19x {k a w:Nat} (h:GoodS k a w) (x:Nat) (hx:x≤15):Gr (12^15) (2^24) (valC k a x):=by
 have h1:=o_19w
 unfold valAll at h1
 rw [List.all_eq_true] at h1
 have h2:=h1 (k,a) (by
  rcases h.1 with ⟨rfl,h2,h3⟩ | ⟨rfl,h2⟩ | ⟨rfl,h2,h3⟩
  ·have:a=1∨a=2∨a=3∨a=4:=by omega
   rcases this with rfl | rfl | rfl | rfl<;>simp
  ·have:a=0∨a=1:=by omega
   rcases this with rfl | rfl<;>simp
  ·have:a=1∨a=2:=by omega
   rcases this with rfl | rfl<;>simp)
 rw [List.all_eq_true] at h2
 exact o_19v (h2 x (List.mem_range.2 (by omega)))
end
section
open Go.RowKit
structure LsOK (k a w:Nat) (L:Sp) (D C E V:Nat):Prop where
 len:L.length≤1000
 one:exQ (fun _=>1) L=1
 dp:0<D
 cp:1≤C
 ep:0<E
 vp:1≤V
 sd:size D≤220
 sc:size C≤70
 se:size E≤2
 sv:size V≤2
 well:∀p∈L,WellR k a w p.1.1 p.1.2.1 p.1.2.2
 gr:∀p∈L,Gr D C p.2
 vg:∀p∈L,Gr E V (vlQ k a w p.1)
theorem Gr.nn {D B:Nat} {q:Rat} (hD:0<D) (h:Gr D B q):0≤q:=by
 obtain ⟨z,h1,-⟩:=h
 have hp:(0:Rat)<(D:Rat):=by exact_mod_cast hD
 apply Classical.byContradiction
 intro hn
 have hz:(0:Rat)≤(z:Rat):=by exact_mod_cast Nat.zero_le z
 have:=Rat.mul_lt_mul_of_pos_right (Rat.not_le.1 hn) hp
 grind
theorem LsOK.nn {k a w:Nat} {L:Sp} {D C E V:Nat} (h:LsOK k a w L D C E V):∀p∈L,0≤p.2:=fun p hp=>(h.gr p hp).nn h.dp
theorem o_19y {n V:Nat} (h:n≤V):Gr 1 V ((n:Nat):Rat):=⟨n,by rw [show ((1:Nat):Rat)=1 from rfl,Rat.mul_one],by omega⟩
end
section
open Go.RowKit
theorem o_19z (n:Nat) (hn:n≤8192):Eqn Tryz.prog o_dp [.d (.int .i64 n)] [] (.d (rD (mkRat 1 (2^n)))) []:=by
 refine Eqn.pure o_dr Plain.ok ?_
 have hh:=o_sa n (by omega)
 rw [show D.agg [natW 1,.bool false,natW (2^n-1)]=rD (mkRat 1 (2^n)) from o_13k n] at hh
 obtain ⟨A1,A2,A3,hA⟩:∃A1 A2 A3,rD (mkRat 1 (2^n)) = .agg [A1,A2,A3]:=⟨_,_,_,rfl⟩
 rw [hA] at hh ⊢
 refine cc (c':=?z290) ?_ ?_
 case refine_1=>cbv<;>exact rfl
 refine A00 ?_;try with_reducible exact tt
 refine CallS.pu (hh) (R0 ?_);try with_reducible exact tt
theorem o_1a0 (n:Nat):size (2^n)≤n+1:=o_15i 2 (o_p8 (by decide)) n
theorem Gi.rs {e:Nat} {x:Rat} (h:Gi e x) (h1:x≤1) (he:e≤90000):RS x 90001:=(h.gr h1).rs (Nat.two_pow_pos e) (Nat.le_refl _) (by rw [Nat.one_mul];have:=o_1a0 e;omega)
theorem SpOK.rs {e:Nat} {P:St→Prop} {l:Sp} (h:SpOK e P l) (he:e≤90000):∀p∈l,RS p.2 100000:=fun p hp=>((h.gi p hp).rs (o_19d h.nn (by rw [h.one];exact Rat.le_refl) p hp) he).le (by omega)
theorem o_1a1 {s:St}:∀{l:Sp},(∀p∈l,p.1≠s)→getQ l s=0
 | [],_=>rfl
 | p::l,h=>by
  unfold getQ
  rw [if_neg fun e=>h p (by simp) e.symm]
  exact o_1a1 fun q hq=>h q (by simp [hq])
theorem o_1a2 {K k:Nat} (hK:K≤1000) (hk:k≤K):RS (binP K k) 100000:=by
 have h1:Gi K (binP K k):=by
  obtain ⟨z,hz⟩:=o_19j K
  refine ⟨wayQ K k*z,?_⟩
  unfold binP
  rw [Rat.natCast_mul,←hz];grind
 have h2:binP K k≤1:=by
  unfold binP
  rw [o_193 K k (by omega)]
  have hp:=o_195 K
  have h0:(0:Rat)≤mkRat 1 (2^K):=(o_19j K).nn
  have h3:((chs K k:Nat):Rat)≤((2^K:Nat):Rat):=by exact_mod_cast o_191 K k
  have:=Rat.mul_le_mul_of_nonneg_right h3 h0
  grind
 exact (h1.rs h2 (by omega)).le (by omega)
set_option maxHeartbeats 4000000 in
theorem o_1a3 (s:St) (hK:s.1≤1000) (hT:s.2.1≤1000):Eqn Tryz.prog o_gw [.d (.agg (stD s))] [] (.mp 0) [spO (binQ s)]:=by
 obtain ⟨K,T,f⟩:=s
 simp only at hK hT
 refine Eqn.gen [1] o_gy (by simp) (by simp) (by rfl) (by decide) (by simp) (by simp [spO]) ?_
 have hof:∀y:Nat,y<2^60→Eqn Tryz.prog o_cp [.d (.sl 1 [.int .u64 y])] [] (.d (.agg [natW y])) []:=fun y hy=>by
  have:=o_o6 [y] (o_p2 (by omega)) (by simp)
  simpa [W,wval] using this
 have ho1:=hof 1 (by omega)
 have hh:=o_19z K (by omega)
 have eT:IntKind.i64.wrap ((T:Int)+1)=((T+1:Nat):Int):=by rw [w64 (by omega) (by omega)];omega
 refine cc (c':=?z291) ?_ ?_
 case refine_1=>cbv<;>exact rfl
 try simp only [stD,spO,rD_rc] at hh ⊢
 refine A00 ?_;try with_reducible exact tt
 refine CallS.pf 2 1 ⟨181,_⟩ [.int .u64 (1:Nat)] (ho1) (by first | rfl | (simp;done)) (R0 ?_);try with_reducible exact tt
 refine A00 ?_;try with_reducible exact tt
 refine AW.loopW (α:=Nat) (fun k=>setS (List.replicate 50 .junk) [(1,.p 0 0),(3,.mp 1),(4,.p 3 0),(5,.d (.int .i64 (k:Nat)))]) (fun k=>[some ⟨64,[.d (.int .i64 K),.d (.int .i64 T),.d (.bool f)]⟩,some ⟨1000391,(spD rcD (binI (K,T,f) k)).map .d⟩,none,some ⟨43,[.d (natW (wayQ K k))]⟩]) (fun k=>k≤K+1) (fun k=>K+1-k) 4 (fun _=>rfl) (Nat.zero_le _) 0 (Nat.zero_le _) ?_ ?_ ?_
 ·simp
 ·simp [binI,wayQ,spD]
 rintro k hk
 simp
 by_cases hk2:k≤K
 ·have hk3:(k:Int)≤K:=by omega
  have ew:IntKind.i64.wrap ((k:Int)+1)=((k+1:Nat):Int):=by rw [w64 (by omega) (by omega)];omega
  have es:IntKind.i64.wrap ((K:Int)-k)=((K-k:Nat):Int):=by rw [w64 (by omega) (by omega)];omega
  have eu:IntKind.u64.wrap ((K-k:Nat):Int)=((K-k:Nat):Int):=wu64 (by omega) (by omega)
  have eu2:IntKind.u64.wrap ((k+1:Nat):Int)=((k+1:Nat):Int):=wu64 (by omega) (by omega)
  have hw:size (wayQ K k)≤1001:=by
   rw [o_193 K k (by omega)]
   have:=o_oq (o_191 K k)
   have:=o_1a0 K
   omega
  have hrn:=o_uq (wayQ K k)
  have s1:RS ((wayQ K k:Nat):Rat) 100000:=by
   have hg:Gr 1 (2^K) ((wayQ K k:Nat):Rat):=⟨wayQ K k,by rw [show ((1:Nat):Rat)=1 from rfl,Rat.mul_one],by rw [o_193 K k (by omega),Nat.mul_one];exact o_191 K k⟩
   exact hg.rs (by decide) (Nat.two_pow_pos K) (by rw [Nat.mul_one];have:=o_1a0 K;omega)
  have s2:RS (mkRat 1 (2^K)) 100000:=by
   have h1:RS (mkRat 1 (2^K)) 1001:=RS.mk' (Nat.two_pow_pos K) (Nat.le_trans (o_p8 (by decide)) (by omega)) (by have:=o_1a0 K;omega)
   exact h1.le (by omega)
  have hm:=o_ul ((wayQ K k:Nat):Rat) (mkRat 1 (2^K)) s1 s2
  rw [show ((wayQ K k:Nat):Rat)*mkRat 1 (2^K)=binP K k from rfl] at hm
  have hgt:getQ (binI (K,T,f) k) (k,T+1,f)=0:=o_1a1 fun p hp e=>by
   have:=(o_198 k p hp).1
   rw [e] at this
   simp only at this
   omega
  have hadd:=o_13f (binI (K,T,f) k) (k,T+1,f) (binP K k) (by rw [hgt];exact ⟨by decide,by decide⟩) (o_1a2 hK hk2)
  rw [show addQ (binI (K,T,f) k) (k,T+1,f) (binP K k)=binI (K,T,f) (k+1) from rfl] at hadd
  have hsk:size (K-k)≤1:=o_p8 (by omega)
  have hmu:=o_s0 (wayQ K k) (K-k) (by omega) (by omega)
  have hdv:=o_s6 (wayQ K k*(K-k)) (k+1) (by have:=o_u7 (wayQ K k) (K-k);omega) (by omega) (.inl (by omega)) (Nat.le_trans (o_p8 (by omega)) (by omega))
  have ho2:=hof (K-k) (by omega)
  have ho3:=hof (k+1) (by omega)
  rw [show wayQ K k*(K-k)/(k+1)=wayQ K (k+1) from rfl] at hdv
  obtain ⟨A1,A2,A3,hA⟩:∃A1 A2 A3,rcD ((wayQ K k:Nat):Rat)=[A1,A2,A3]:=⟨_,_,_,rfl⟩
  obtain ⟨H1,H2,H3,hH⟩:∃H1 H2 H3,rcD (mkRat 1 (2^K))=[H1,H2,H3]:=⟨_,_,_,rfl⟩
  obtain ⟨B1,B2,B3,hB⟩:∃B1 B2 B3,rcD (binP K k)=[B1,B2,B3]:=⟨_,_,_,rfl⟩
  simp only [rD_rc,stD,spO] at hrn hm hadd
  rw [hA] at hrn hm
  rw [hH] at hm hh
  rw [hB] at hm hadd
  obtain ⟨M,hM⟩:∃M,M=wayQ K k*(K-k):=⟨_,rfl⟩
  rw [←hM] at hmu hdv
  obtain ⟨R,hR⟩:∃R,R=M%(k+1):=⟨_,rfl⟩
  rw [←hR] at hdv
  obtain ⟨WN,hWN⟩:∃WN,WN=wayQ K (k+1):=⟨_,rfl⟩
  rw [←hWN] at hdv
  generalize wayQ K k=WK at *
  obtain ⟨k1,hk1⟩:∃k1,k1=k+1:=⟨_,rfl⟩
  obtain ⟨T1,hT1⟩:∃T1,T1=T+1:=⟨_,rfl⟩
  obtain ⟨Kk,hKk⟩:∃Kk,Kk=K-k:=⟨_,rfl⟩
  rw [←hT1] at hadd eT
  rw [←hk1] at hdv ho3 eu2 ew hadd
  rw [←hKk] at hmu ho2 eu es
  refine A10 (fs hk2 (fs hk3 eT)) ?_;try with_reducible exact tt
  refine CallS.pu (hrn) (R0 ?_);try with_reducible exact tt
  refine CallS.pu (hh) (R0 ?_);try with_reducible exact tt
  refine CallS.pu (hm) (R0 ?_);try with_reducible exact tt
  have eK:(K:Int)-k=(Kk:Int):=by omega
  have ek:(k:Int)+1=(k1:Int):=by omega
  refine CallS.g [1] (hadd) (R1 (fs es eu) ?_);try with_reducible exact tt
  refine A10 (fs es (fs eu eK)) ?_;try with_reducible exact tt
  refine CallS.pf 4 1 ⟨181,_⟩ [.int .u64 Kk] (ho2) (by first | rfl | (simp [eK];done)) (R1 eK ?_);try with_reducible exact tt
  refine CallS.pu (hmu) (R1 (fs ew eu2) ?_);try with_reducible exact tt
  refine A10 (fs ew (fs eu2 ek)) ?_;try with_reducible exact tt
  refine CallS.pf 5 1 ⟨181,_⟩ [.int .u64 k1] (ho3) (by first | rfl | (simp [ek];done)) (R1 ek ?_);try with_reducible exact tt
  refine CallS.pu (hdv) (R0 ?_);try with_reducible exact tt
  refine A10 (fs ew ek) ?_;try with_reducible exact tt
  refine ⟨k1,by omega,by omega,?_,?_⟩
  ·exact Sub1.int (by omega)
  ·rw [hk1,←hWN];exact ⟨Subs.refl _,Subs.refl _⟩
 ·have h2:k=K+1:=by omega
  subst h2
  have h3:¬(K:Int)+1≤K:=by omega
  have h4:((K+1:Nat):Int)=(K:Int)+1:=by omega
  have h5:¬K+1≤K:=by omega
  refine A10 (fs h3 (fs h4 h5)) ?_;try with_reducible exact tt
  exact Subs.refl _
end
section
open Go.RowKit
structure NextJ (next:St→Sp) (G J:Nat) (s:St):Prop where
 uq:Uq (next s)
 nz:nzQ (next s)≠[]
 len:(next s).length≤J
 j6:J≤1000000
 gr:∀p∈next s,Gr G 1 p.2
set_option maxHeartbeats 4000000 in
theorem o_1a4 {f:FuncId} {next:St→Sp} {T1:TypeId} {x0 x1 x2:D} (ho1:T1<1000000) (P:St→Prop) (l:Sp) (G D B L J CP:Nat) (hu:Uq l) (hok:∀p∈nzQ l,P p.1) (hnz:nzQ l≠[]) (h12:(nzQ l).length≤L) (hl:l.length≤1000000) (hD:0<D) (hB:1≤B) (hgl:∀p∈l,Gr D B p.2) (hG:0<G) (hf:∀s:St,P s→NextJ next G J s∧Eqn Tryz.prog f [.d (.agg (stD s)),.p 0 0] [⟨T1,[.d x0,.d x1,.d x2]⟩] (.mp 1) [⟨T1,[.d x0,.d x1,.d x2]⟩,spO (next s)]) (hsz:size (CP*(D*G))≤100000) (hCP:L*J*B≤CP) (hJ:1≤J) :
  Eqn Tryz.prog o_a1 [.mp 0,.fn (.func f) [.p 1 0]] [spO l,⟨T1,[.d x0,.d x1,.d x2]⟩] (.mp 2) [spO l,⟨T1,[.d x0,.d x1,.d x2]⟩,spO (timesQ next l)]:=by
 refine Eqn.gen [0,1,2] o_a3 (by simp) (by simp) (by rfl) (by decide) (by simp) (by simp [spO,ho1]) ?_
 obtain ⟨A,hA⟩:∃A,A=atQ l:=⟨_,rfl⟩
 have hAl:A.length≤L:=by rw [hA,(o_12v l).length_eq];exact h12
 have hAm6:A.length≤1000000:=Nat.le_trans (hA▸o_158 l) hl
 have hA0:1≤A.length:=by
  rw [hA,(o_12v l).length_eq]
  rcases Nat.eq_zero_or_pos (nzQ l).length with e | e
  ·exact absurd (List.eq_nil_of_length_eq_zero e) hnz
  ·exact e
 have hAm:∀p∈A,p∈l:=fun p hp=>(List.mem_filter.1 ((o_12v l).mem_iff.1 (hA▸hp))).1
 have hAz:∀p∈A,p∈nzQ l:=fun p hp=>(o_12v l).mem_iff.1 (hA▸hp)
 have hDG:0<D*G:=Nat.mul_pos hD hG
 have hBC:B≤CP:=by
  refine Nat.le_trans ?_ hCP
  have:1≤L*J:=Nat.mul_pos (by omega) hJ
  exact Nat.le_mul_of_pos_left B this
 have hBD:size (B*D)≤100000:=by
  refine Nat.le_trans (o_oq ?_) hsz
  exact Nat.mul_le_mul hBC (Nat.le_mul_of_pos_right D hG)
 have hat:=o_14w l hu hnz hl (fun p hp=>(hgl p hp).rs hD hB hBD)
 have hGs:size (1*G)≤100000:=by
  refine Nat.le_trans (o_oq ?_) hsz
  rw [Nat.one_mul]
  exact Nat.le_trans (Nat.le_mul_of_pos_left G hD) (Nat.le_mul_of_pos_left _ (by omega))
 have hgn:∀s:St,P s→∀p∈next s,Gr G 1 p.2:=fun s hs=>(hf s hs).1.gr
 have hnl:∀s:St,P s→(atQ (next s)).length≤J:=fun s hs=>Nat.le_trans (o_158 _) (hf s hs).1.len
 have hnl6:∀s:St,P s→(atQ (next s)).length≤1000000:=fun s hs=>Nat.le_trans (hnl s hs) (hf s hs).1.j6
 have hout:=o_155 (D:=D) (E:=G) (B:=B) (J:=J) (next:=next) (A:=A) (fun p hp=>hgl p (hAm p hp)) (fun p hp=>⟨hgn p.1 (hok p (hAz p hp)),hnl p.1 (hok p (hAz p hp))⟩)
 have hon:=o_151 next A
 have hoa:outQ next A A.length=timesQ next l:=by rw [hA];exact o_152 next l
 have hADl:=o_12e rcD (fun _=>rfl) A
 have hget:=o_15a A
 rw [←hoa]
 rw [←hA] at hat
 have hcl:∀s:St,P s→Eqn Tryz.prog f [.d (.agg (stD s)),.p 0 0] [⟨T1,[.d x0,.d x1,.d x2]⟩] (.mp 1) [⟨T1,[.d x0,.d x1,.d x2]⟩,spO (next s)]∧Eqn Tryz.prog o_9p [.mp 0] [spO (next s)] (.d (.sl (atQ (next s)).length (spD rcD (atQ (next s))))) [spO (next s)]:=fun s hs=>by
  obtain ⟨hn,hh⟩:=hf s hs
  exact ⟨hh,o_14w _ hn.uq hn.nz (Nat.le_trans hn.len hn.j6) fun p hp=>(hgn s hs p hp).rs hG (Nat.le_refl _) hGs⟩
 have hAok:∀p∈A,P p.1:=fun p hp=>hok p (hAz p hp)
 clear hA hoa hnz hf
 refine cc (c':=?z292) ?_ ?_
 case refine_1=>cbv<;>exact rfl
 try simp only [spO] at hat hcl ⊢
 generalize hLl:spD rcD l=LL at *
 refine A00 ?_;try with_reducible exact tt
 refine CallS.g [0] (hat) (R0 ?_);try with_reducible exact tt
 refine AW.loopG (α:=Nat) (fun i=>setS (List.replicate 40 .junk) [(1,.fn (.func f) [.p 1 0]),(5,.mp 2),(12,.d (.sl A.length (spD rcD A))),(13,.d (.int .i64 A.length)),(14,.d (.int .i64 (i:Nat)))]) (fun i=>[some ⟨1000391,LL.map .d⟩,some ⟨T1,[.d x0,.d x1,.d x2]⟩,some ⟨1000391,(spD rcD (outQ next A i)).map .d⟩]) (fun i=>i≤A.length) (fun i=>A.length-i) 0 ?_ (Nat.zero_le _) ?_ ?_ ?_
 ·intro i hi;simp
 ·simp
 ·simp [outQ,spD]
 rintro i hi
 simp
 by_cases hi2:i<A.length
 ·have hi3:(i:Int)<A.length:=by omega
  obtain ⟨s1,s2,s3,q,N1,N2,N3,hp,hN,hg⟩:=hget i hi2
  have hsk:=hAok _ (List.getElem_mem hi2)
  rw [hp] at hsk
  obtain ⟨hof,han⟩:=hcl (s1,s2,s3) hsk
  have hgq:Gr D B q:=by have:=hgl _ (hAm _ (List.getElem_mem hi2));rw [hp] at this;exact this
  have hon1:=hon i hi2
  rw [hp] at hon1
  simp only at hon1
  have hgo:=hout i hi
  have hn2:=hnl (s1,s2,s3) hsk
  have hgn2:=hgn (s1,s2,s3) hsk
  have hJ6:=(hnl6 (s1,s2,s3) hsk)
  obtain ⟨C,hC⟩:∃C,C=atQ (next (s1,s2,s3)):=⟨_,rfl⟩
  have hCm:∀p∈C,Gr G 1 p.2:=fun p hp=>hgn2 p (List.mem_filter.1 ((o_12v _).mem_iff.1 (hC▸hp))).1
  rw [←hC] at hon1 han hn2 hJ6
  have hCl:=o_12e rcD (fun _=>rfl) C
  have hgetC:=o_15a C
  have ewi:IntKind.i64.wrap ((i:Int)+1)=((i+1:Nat):Int):=by rw [w64 (by omega) (by omega)];omega
  simp only [stD] at hof han
  generalize hNL:spD rcD (next (s1,s2,s3))=NL at *
  have hb6:i*6+6≤A.length*6:=by omega
  have hb7:i*6<A.length*6:=by omega
  refine A10 (fs hi2 (fs hi3 (fs hg (fs hADl (fs hb6 hb7))))) ?_;try with_reducible exact tt
  refine CallS.g [1] (hof) (R0 ?_);try with_reducible exact tt
  refine CallS.g [4] (han) (R0 ?_);try with_reducible exact tt
  refine AW.loopG (α:=Nat) (fun j=>setS (List.replicate 40 .junk) [(1,.fn (.func f) [.p 1 0]),(5,.mp 2),(7,.p 3 0),(12,.d (.sl A.length (spD rcD A))),(13,.d (.int .i64 A.length)),(14,.d (.int .i64 (i:Nat))),(22,.d (.sl C.length (spD rcD C))),(23,.d (.int .i64 C.length)),(24,.d (.int .i64 (j:Nat)))]) (fun j=>[some ⟨1000391,LL.map .d⟩,some ⟨T1,[.d x0,.d x1,.d x2]⟩,some ⟨1000391,(spD rcD (innQ q (outQ next A i) (C.take j))).map .d⟩,some ⟨75,[.d (.int .i64 s1),.d (.int .i64 s2),.d (.bool s3),.d N1,.d N2,.d N3]⟩]) (fun j=>j≤C.length) (fun j=>C.length-j) 0 ?_ (Nat.zero_le _) ?_ ?_ ?_
  ·intro j hj;simp
  ·simp
  ·simp [innQ]
  rintro j hj
  simp
  by_cases hj2:j<C.length
  ·have hj3:(j:Int)<C.length:=by omega
   obtain ⟨t1,t2,t3,r,M1,M2,M3,hpc,hM,hgc⟩:=hgetC j hj2
   have hinn:=o_150 q (outQ next A i) C j hj2
   have hgr:=hCm _ (List.getElem_mem hj2)
   rw [hpc] at hinn hgr
   simp only at hinn hgr
   have hqr:=hgq.mul hgr
   have hgi:=o_154 (q:=q) (B:=B) hgo (C.take j) (fun p hp=>by
    have:=hgq.mul (hCm p (List.mem_of_mem_take hp))
    rwa [Nat.mul_one] at this)
   have hget2:=(o_153 hgi (t1,t2,t3)).le (C:=CP) (by
    have e1:(C.take j).length≤j:=by rw [List.length_take];omega
    have e2:=Nat.mul_le_mul_right B e1
    have e3:(i*J+j)*B≤L*J*B:=Nat.mul_le_mul_right _ (by
     have:(i+1)*J≤L*J:=Nat.mul_le_mul_right J (by omega)
     rw [Nat.add_mul,Nat.one_mul] at this
     omega)
    rw [Nat.add_mul] at e3
    omega)
   have hq1:=hgq.rs hD hB hBD
   have hr1:=hgr.rs hG (Nat.le_refl _) hGs
   have hmul:=o_ul q r hq1 hr1
   have hadd:=o_13f (innQ q (outQ next A i) (C.take j)) (t1,t2,t3) (q*r) (hget2.rs hDG (by omega) hsz) ((hqr.le (C:=CP) (by omega)).rs hDG (by omega) hsz)
   have ewj:IntKind.i64.wrap ((j:Int)+1)=((j+1:Nat):Int):=by rw [w64 (by omega) (by omega)];omega
   have hc6:j*6+6≤C.length*6:=by omega
   have hc7:j*6<C.length*6:=by omega
   rw [←hinn] at hadd
   rw [rD_rc q,rD_rc r,rD_rc (q*r),hN,hM] at hmul
   rw [rD_rc (q*r)] at hadd
   obtain ⟨P1,P2,P3,hP⟩:∃P1 P2 P3,rcD (q*r)=[P1,P2,P3]:=⟨_,_,_,rfl⟩
   rw [hP] at hmul hadd
   simp only [spO,stD] at hadd
   refine A10 (fs hj2 (fs hj3 (fs hgc (fs hCl (fs hc6 hc7))))) ?_;try with_reducible exact tt
   refine CallS.pu (hmul) (R0 ?_);try with_reducible exact tt
   refine CallS.g [2] (hadd) (R0 ?_);try with_reducible exact tt
   refine A10 ewj ?_;try with_reducible exact tt
   refine ⟨j+1,2,2,⟨by omega,by omega,by omega,by omega⟩,by omega,by omega,?_,?_⟩
   ·simp [swT,swH,sw,Ob.sw,V.ren,V.rens]
   ·simp [swT,swH,sw,Ob.sw,V.ren,V.rens]
  ·have h2:j=C.length:=by omega
   subst h2
   rw [List.take_length,←hon1]
   refine A00 ?_;try with_reducible exact tt
   refine A10 ewi ?_;try with_reducible exact tt
   refine ⟨i+1,2,2,⟨by omega,by omega,by omega,by omega⟩,by omega,by omega,?_,?_⟩
   ·simp [swT,swH,sw,Ob.sw,V.ren,V.rens]
   ·simp [swT,swH,sw,Ob.sw,V.ren,V.rens]
 ·have h2:i=A.length:=by omega
  subst h2
  refine A00 ?_;try with_reducible exact tt
set_option maxHeartbeats 4000000 in
theorem o_1a5 {f:FuncId} {next:St→Sp} (P:St→Prop) (l:Sp) (G D B L J CP:Nat) (hu:Uq l) (hok:∀p∈nzQ l,P p.1) (hnz:nzQ l≠[]) (h12:(nzQ l).length≤L) (hl:l.length≤1000000) (hD:0<D) (hB:1≤B) (hgl:∀p∈l,Gr D B p.2) (hG:0<G) (hf:∀s:St,P s→NextJ next G J s∧Eqn Tryz.prog f [.d (.agg (stD s))] [] (.mp 0) [spO (next s)]) (hsz:size (CP*(D*G))≤100000) (hCP:L*J*B≤CP) (hJ:1≤J) :
  Eqn Tryz.prog o_a1 [.mp 0,.fn (.func f) []] [spO l] (.mp 1) [spO l,spO (timesQ next l)]:=by
 refine Eqn.gen [0,1] o_a3 (by simp) (by simp) (by rfl) (by decide) (by simp) (by simp [spO]) ?_
 obtain ⟨A,hA⟩:∃A,A=atQ l:=⟨_,rfl⟩
 have hAl:A.length≤L:=by rw [hA,(o_12v l).length_eq];exact h12
 have hAm6:A.length≤1000000:=Nat.le_trans (hA▸o_158 l) hl
 have hA0:1≤A.length:=by
  rw [hA,(o_12v l).length_eq]
  rcases Nat.eq_zero_or_pos (nzQ l).length with e | e
  ·exact absurd (List.eq_nil_of_length_eq_zero e) hnz
  ·exact e
 have hAm:∀p∈A,p∈l:=fun p hp=>(List.mem_filter.1 ((o_12v l).mem_iff.1 (hA▸hp))).1
 have hAz:∀p∈A,p∈nzQ l:=fun p hp=>(o_12v l).mem_iff.1 (hA▸hp)
 have hDG:0<D*G:=Nat.mul_pos hD hG
 have hBC:B≤CP:=by
  refine Nat.le_trans ?_ hCP
  have:1≤L*J:=Nat.mul_pos (by omega) hJ
  exact Nat.le_mul_of_pos_left B this
 have hBD:size (B*D)≤100000:=by
  refine Nat.le_trans (o_oq ?_) hsz
  exact Nat.mul_le_mul hBC (Nat.le_mul_of_pos_right D hG)
 have hat:=o_14w l hu hnz hl (fun p hp=>(hgl p hp).rs hD hB hBD)
 have hGs:size (1*G)≤100000:=by
  refine Nat.le_trans (o_oq ?_) hsz
  rw [Nat.one_mul]
  exact Nat.le_trans (Nat.le_mul_of_pos_left G hD) (Nat.le_mul_of_pos_left _ (by omega))
 have hgn:∀s:St,P s→∀p∈next s,Gr G 1 p.2:=fun s hs=>(hf s hs).1.gr
 have hnl:∀s:St,P s→(atQ (next s)).length≤J:=fun s hs=>Nat.le_trans (o_158 _) (hf s hs).1.len
 have hnl6:∀s:St,P s→(atQ (next s)).length≤1000000:=fun s hs=>Nat.le_trans (hnl s hs) (hf s hs).1.j6
 have hout:=o_155 (D:=D) (E:=G) (B:=B) (J:=J) (next:=next) (A:=A) (fun p hp=>hgl p (hAm p hp)) (fun p hp=>⟨hgn p.1 (hok p (hAz p hp)),hnl p.1 (hok p (hAz p hp))⟩)
 have hon:=o_151 next A
 have hoa:outQ next A A.length=timesQ next l:=by rw [hA];exact o_152 next l
 have hADl:=o_12e rcD (fun _=>rfl) A
 have hget:=o_15a A
 rw [←hoa]
 rw [←hA] at hat
 have hcl:∀s:St,P s→Eqn Tryz.prog f [.d (.agg (stD s))] [] (.mp 0) [spO (next s)]∧Eqn Tryz.prog o_9p [.mp 0] [spO (next s)] (.d (.sl (atQ (next s)).length (spD rcD (atQ (next s))))) [spO (next s)]:=fun s hs=>by
  obtain ⟨hn,hh⟩:=hf s hs
  exact ⟨hh,o_14w _ hn.uq hn.nz (Nat.le_trans hn.len hn.j6) fun p hp=>(hgn s hs p hp).rs hG (Nat.le_refl _) hGs⟩
 have hAok:∀p∈A,P p.1:=fun p hp=>hok p (hAz p hp)
 clear hA hoa hnz hf
 refine cc (c':=?z293) ?_ ?_
 case refine_1=>cbv<;>exact rfl
 try simp only [spO] at hat hcl ⊢
 generalize hLl:spD rcD l=LL at *
 refine A00 ?_;try with_reducible exact tt
 refine CallS.g [0] (hat) (R0 ?_);try with_reducible exact tt
 refine AW.loopG (α:=Nat) (fun i=>setS (List.replicate 40 .junk) [(1,.fn (.func f) []),(5,.mp 1),(12,.d (.sl A.length (spD rcD A))),(13,.d (.int .i64 A.length)),(14,.d (.int .i64 (i:Nat)))]) (fun i=>[some ⟨1000391,LL.map .d⟩,some ⟨1000391,(spD rcD (outQ next A i)).map .d⟩]) (fun i=>i≤A.length) (fun i=>A.length-i) 0 ?_ (Nat.zero_le _) ?_ ?_ ?_
 ·intro i hi;simp
 ·simp
 ·simp [outQ,spD]
 rintro i hi
 simp
 by_cases hi2:i<A.length
 ·have hi3:(i:Int)<A.length:=by omega
  obtain ⟨s1,s2,s3,q,N1,N2,N3,hp,hN,hg⟩:=hget i hi2
  have hsk:=hAok _ (List.getElem_mem hi2)
  rw [hp] at hsk
  obtain ⟨hof,han⟩:=hcl (s1,s2,s3) hsk
  have hgq:Gr D B q:=by have:=hgl _ (hAm _ (List.getElem_mem hi2));rw [hp] at this;exact this
  have hon1:=hon i hi2
  rw [hp] at hon1
  simp only at hon1
  have hgo:=hout i hi
  have hn2:=hnl (s1,s2,s3) hsk
  have hgn2:=hgn (s1,s2,s3) hsk
  have hJ6:=(hnl6 (s1,s2,s3) hsk)
  obtain ⟨C,hC⟩:∃C,C=atQ (next (s1,s2,s3)):=⟨_,rfl⟩
  have hCm:∀p∈C,Gr G 1 p.2:=fun p hp=>hgn2 p (List.mem_filter.1 ((o_12v _).mem_iff.1 (hC▸hp))).1
  rw [←hC] at hon1 han hn2 hJ6
  have hCl:=o_12e rcD (fun _=>rfl) C
  have hgetC:=o_15a C
  have ewi:IntKind.i64.wrap ((i:Int)+1)=((i+1:Nat):Int):=by rw [w64 (by omega) (by omega)];omega
  simp only [stD] at hof han
  generalize hNL:spD rcD (next (s1,s2,s3))=NL at *
  have hb6:i*6+6≤A.length*6:=by omega
  have hb7:i*6<A.length*6:=by omega
  refine A10 (fs hi2 (fs hi3 (fs hg (fs hADl (fs hb6 hb7))))) ?_;try with_reducible exact tt
  refine CallS.nX (hof) (R0 ?_);try with_reducible exact tt
  refine CallS.g [3] (han) (R0 ?_);try with_reducible exact tt
  refine AW.loopG (α:=Nat) (fun j=>setS (List.replicate 40 .junk) [(1,.fn (.func f) []),(5,.mp 1),(7,.p 2 0),(12,.d (.sl A.length (spD rcD A))),(13,.d (.int .i64 A.length)),(14,.d (.int .i64 (i:Nat))),(22,.d (.sl C.length (spD rcD C))),(23,.d (.int .i64 C.length)),(24,.d (.int .i64 (j:Nat)))]) (fun j=>[some ⟨1000391,LL.map .d⟩,some ⟨1000391,(spD rcD (innQ q (outQ next A i) (C.take j))).map .d⟩,some ⟨75,[.d (.int .i64 s1),.d (.int .i64 s2),.d (.bool s3),.d N1,.d N2,.d N3]⟩]) (fun j=>j≤C.length) (fun j=>C.length-j) 0 ?_ (Nat.zero_le _) ?_ ?_ ?_
  ·intro j hj;simp
  ·simp
  ·simp [innQ]
  rintro j hj
  simp
  by_cases hj2:j<C.length
  ·have hj3:(j:Int)<C.length:=by omega
   obtain ⟨t1,t2,t3,r,M1,M2,M3,hpc,hM,hgc⟩:=hgetC j hj2
   have hinn:=o_150 q (outQ next A i) C j hj2
   have hgr:=hCm _ (List.getElem_mem hj2)
   rw [hpc] at hinn hgr
   simp only at hinn hgr
   have hqr:=hgq.mul hgr
   have hgi:=o_154 (q:=q) (B:=B) hgo (C.take j) (fun p hp=>by
    have:=hgq.mul (hCm p (List.mem_of_mem_take hp))
    rwa [Nat.mul_one] at this)
   have hget2:=(o_153 hgi (t1,t2,t3)).le (C:=CP) (by
    have e1:(C.take j).length≤j:=by rw [List.length_take];omega
    have e2:=Nat.mul_le_mul_right B e1
    have e3:(i*J+j)*B≤L*J*B:=Nat.mul_le_mul_right _ (by
     have:(i+1)*J≤L*J:=Nat.mul_le_mul_right J (by omega)
     rw [Nat.add_mul,Nat.one_mul] at this
     omega)
    rw [Nat.add_mul] at e3
    omega)
   have hq1:=hgq.rs hD hB hBD
   have hr1:=hgr.rs hG (Nat.le_refl _) hGs
   have hmul:=o_ul q r hq1 hr1
   have hadd:=o_13f (innQ q (outQ next A i) (C.take j)) (t1,t2,t3) (q*r) (hget2.rs hDG (by omega) hsz) ((hqr.le (C:=CP) (by omega)).rs hDG (by omega) hsz)
   have ewj:IntKind.i64.wrap ((j:Int)+1)=((j+1:Nat):Int):=by rw [w64 (by omega) (by omega)];omega
   have hc6:j*6+6≤C.length*6:=by omega
   have hc7:j*6<C.length*6:=by omega
   rw [←hinn] at hadd
   rw [rD_rc q,rD_rc r,rD_rc (q*r),hN,hM] at hmul
   rw [rD_rc (q*r)] at hadd
   obtain ⟨P1,P2,P3,hP⟩:∃P1 P2 P3,rcD (q*r)=[P1,P2,P3]:=⟨_,_,_,rfl⟩
   rw [hP] at hmul hadd
   simp only [spO,stD] at hadd
   refine A10 (fs hj2 (fs hj3 (fs hgc (fs hCl (fs hc6 hc7))))) ?_;try with_reducible exact tt
   refine CallS.pu (hmul) (R0 ?_);try with_reducible exact tt
   refine CallS.g [1] (hadd) (R0 ?_);try with_reducible exact tt
   refine A10 ewj ?_;try with_reducible exact tt
   refine ⟨j+1,1,1,⟨by omega,by omega⟩,by omega,by omega,?_,?_⟩
   ·simp [swT,swH,sw,Ob.sw,V.ren,V.rens]
   ·simp [swT,swH,sw,Ob.sw,V.ren,V.rens]
  ·have h2:j=C.length:=by omega
   subst h2
   rw [List.take_length,←hon1]
   refine A00 ?_;try with_reducible exact tt
   refine A10 ewi ?_;try with_reducible exact tt
   refine ⟨i+1,1,1,⟨by omega,by omega⟩,by omega,by omega,?_,?_⟩
   ·simp [swT,swH,sw,Ob.sw,V.ren,V.rens]
   ·simp [swT,swH,sw,Ob.sw,V.ren,V.rens]
 ·have h2:i=A.length:=by omega
  subst h2
  refine A00 ?_;try with_reducible exact tt
end
section
open Go.RowKit
theorem o_1a6 (s:St):∀i,(binI s i).length≤i
 | 0=>Nat.le_refl _
 | i+1=>Nat.le_trans (o_156 _ _ _) (Nat.succ_le_succ (o_1a6 s i))
theorem o_1a7 {α:Type} (c:Nat):∀l:List α,(l.map fun _=>c).sum=l.length*c
 | []=>by simp
 | _::l=>by rw [List.map_cons,List.sum_cons,o_1a7 c l,List.length_cons,Nat.add_mul];omega
theorem o_1a8 {A B:Nat} {l:Sp} (hu:Uq l) (h:kyQ (okT A B) l):l.length≤(A+1)*((B+1)*2):=by
 have h1:(l.map (·.1)).length≤((List.range (A+1)).flatMap fun a=>(List.range (B+1)).flatMap fun b=>([(a,b,false),(a,b,true)]:List St)).length:=by
  refine List.Nodup.length_le_of_subset hu fun t ht=>?_
  obtain ⟨p,hp,rfl⟩:=List.mem_map.1 ht
  obtain ⟨h1,h2,-⟩:=h p hp
  refine List.mem_flatMap.2 ⟨p.1.1,List.mem_range.2 (by omega),List.mem_flatMap.2 ⟨p.1.2.1,List.mem_range.2 (by omega),?_⟩⟩
  obtain ⟨⟨a,b,f⟩,q⟩:=p
  cases f<;>simp
 rw [List.length_map] at h1
 simpa [List.length_flatMap,o_1a7] using h1
theorem SpOK.nextJ {e:Nat} {P:St→Prop} {next:St→Sp} {J:Nat} {s:St} (h:SpOK e P (next s)) (hl:(next s).length≤J) (hJ:J≤1000000):NextJ next (2^e) J s:=⟨h.uq,h.nz,hl,hJ,h.gr⟩
structure ThS (A B:Nat):Prop where
 a1:1≤A
 n:(A+1)*(B+1)≤1000
 b:B≤900
 a:A≤450
 gd:GoodT A B
theorem o_1a9 {L J e f:Nat} (hL:L≤100000) (hJ:J≤10000) (he:e+f≤90000):size (L*J*(2^e*2^f))≤100000:=by
 have h1:L*J≤100000*10000:=Nat.mul_le_mul hL hJ
 have h2:=o_u7 (L*J) (2^e*2^f)
 rw [←Nat.pow_add] at *
 have h3:=o_1a0 (e+f)
 have h4:size (L*J)≤1:=o_p8 (by omega)
 omega
set_option maxHeartbeats 4000000 in
theorem o_1aa {A B X:Nat} (h:ThS A B) (hX:X≤900) (hXB:X*(B+1)≤80000):∀(f:Nat) (s:St),s.2.1+f=B→s.1≤X→(s.2.2=true→s.2.1=B)→Eqn Tryz.prog o_ds [.d (parD 4 A B),.d (.agg (stD s))] [] (.mp 0) [spO (downA A B s)]:=by
 intro f
 induction f with
 | zero =>
  intro s hT hsX hf
  refine Eqn.gen [2] o_du (by simp) (by simp) (by rfl) (by decide) (by simp) (by simp [spO]) ?_
  obtain ⟨K,T,F⟩:=s
  simp only at hT hsX hf
  by_cases hk:K≤A
  ·have hk':(K:Int)≤A:=by omega
   have hsu:=o_13j (K,T,F)
   rw [o_19m (s:=(K,T,F)) hk]
   refine cc (c':=?z294) ?_ ?_
   case refine_1=>cbv<;>exact rfl
   try simp only [spO,stD,parD] at hsu ⊢
   generalize spD rcD _=L at *
   refine A10 (fs hk hk') ?_;try with_reducible exact tt
   refine CallS.nX (hsu) (R0 ?_);try with_reducible exact tt
  ·have hk':¬(K:Int)≤A:=by omega
   have hT2:T=B:=by omega
   have hsu:=o_13j (A,T,true)
   rw [o_19n (s:=(K,T,F)) hk (by simp only;omega)]
   subst hT2
   refine cc (c':=?z295) ?_ ?_
   case refine_1=>cbv<;>exact rfl
   try simp only [spO,stD,parD] at hsu ⊢
   generalize spD rcD _=L at *
   refine A10 (fs hk hk') ?_;try with_reducible exact tt
   refine CallS.nX (hsu) (R0 ?_);try with_reducible exact tt
 | succ f ih =>
  intro s hT hsX hf
  by_cases hk:s.1≤A
  ·refine Eqn.gen [2] o_du (by simp) (by simp) (by rfl) (by decide) (by simp) (by simp [spO]) ?_
   obtain ⟨K,T,F⟩:=s
   simp only at hT hsX hf hk
   have hk':(K:Int)≤A:=by omega
   have hsu:=o_13j (K,T,F)
   rw [o_19m (s:=(K,T,F)) hk]
   refine cc (c':=?z296) ?_ ?_
   case refine_1=>cbv<;>exact rfl
   try simp only [spO,stD,parD] at hsu ⊢
   generalize spD rcD _=L at *
   refine A10 (fs hk hk') ?_;try with_reducible exact tt
   refine CallS.nX (hsu) (R0 ?_);try with_reducible exact tt
  ·have hTB:s.2.1<B:=by omega
   have hb:=SpOK.bin s
   have hbX:=hb.mono hsX fun _ h=>h
   have hJ:(A+1)*((B+1)*2)≤2000:=by rw [←Nat.mul_assoc];have:=h.n;omega
   have hXf:X+X*f≤90000:=by
    have:X*(f+1)≤X*(B+1):=Nat.mul_le_mul_left _ (by omega)
    rw [Nat.mul_add] at this
    omega
   have hcl:∀t:St,(t.1≤s.1∧t.2=(s.2.1+1,s.2.2))→NextJ (downA A B) (2^(X*f)) ((A+1)*((B+1)*2)) t∧Eqn Tryz.prog o_gz [.d (.agg (stD t)),.p 0 0] [PO 4 A B] (.mp 1) [PO 4 A B,spO (downA A B t)]:=by
    intro t ht
    have hf0:s.2.2=false:=by
     cases hf2:s.2.2 with
     | false=>rfl
     | true=>have:=hf hf2;omega
    have e1:t.2.1+f=B:=by rw [ht.2];simp only;omega
    have e2:t.2.2=true→t.2.1=B:=by rw [ht.2];simp only [hf0];intro h;cases h
    have hd:=SpOK.down (A:=A) (B:=B) (X:=X) f t e1 (by omega) e2
    refine ⟨hd.nextJ (o_1a8 hd.uq hd.ky) (by omega),?_⟩
    have hdn:=ih t e1 (by omega) e2
    refine Eqn.gen [0,2] o_h1 (by simp) (by simp) (by rfl) (by decide) (by simp) (by simp [spO,PO]) ?_
    refine cc (c':=?z297) ?_ ?_
    case refine_1=>cbv<;>exact rfl
    try simp only [spO,stD,parD,PO] at hdn ⊢
    generalize spD rcD _=L at *
    refine A00 ?_;try with_reducible exact tt
    refine CallS.nX (hdn) (R0 ?_);try with_reducible exact tt
   have hti:=o_1a4 (f:=o_gz) (next:=downA A B) (T1:=62) (x0:=.int .i64 4) (x1:=.int .i64 A) (x2:=.int .i64 B) (by decide) (fun t:St=>t.1≤s.1∧t.2=(s.2.1+1,s.2.2)) (binQ s) (2^(X*f)) (2^X) 1 1000 ((A+1)*((B+1)*2)) (1000*((A+1)*((B+1)*2))) hb.uq (fun p hp=>hb.ky p (List.mem_filter.1 hp).1) hb.nz (Nat.le_trans (List.length_filter_le _ _) (Nat.le_trans (o_1a6 s _) (by omega))) (Nat.le_trans (o_1a6 s _) (by omega)) (Nat.two_pow_pos _) (Nat.le_refl _) hbX.gr (Nat.two_pow_pos _) hcl (o_1a9 (by omega) (by omega) hXf) (by omega) (Nat.mul_pos (by omega) (by omega))
   have hbi:=o_1a3 s (by omega) (by have:=h.b;omega)
   rw [o_19o hk hTB]
   refine Eqn.gen [3] o_du (by simp) (by simp) (by rfl) (by decide) (by simp) (by simp [spO]) ?_
   obtain ⟨K,T,F⟩:=s
   simp only at hT hsX hf hk hTB
   have hk':¬(K:Int)≤A:=by omega
   have hTB':¬(T:Int)=B:=by omega
   have hTB2:¬T=B:=by omega
   have hTB3:((T:Int)==(B:Int))=false:=by simp;omega
   refine cc (c':=?z298) ?_ ?_
   case refine_1=>cbv<;>exact rfl
   try simp only [spO,stD,parD] at hbi hti ⊢
   generalize spD rcD (timesQ _ _)=L2 at *
   generalize spD rcD (binQ _)=L at *
   refine A10 (fs hk (fs hk' (fs hTB' (fs hTB2 hTB3)))) ?_;try with_reducible exact tt
   refine CallS.nX (hbi) (R0 ?_);try with_reducible exact tt
   refine CallS.g [2,0] (hti) (R0 ?_);try with_reducible exact tt
end
section
open Go.RowKit
def dstT (A B:Nat) (s:St) (n:Nat):Sp:=ofQ (stepT A B) s n
theorem o_1ab {A B:Nat} (h:ThS A B):Eqn Tryz.prog o_9v [.d (parD 4 A B)] [] (.d (.int .i64 ((A+1)*(B+1):Nat))) []:=by
 refine Eqn.pure o_9x Plain.ok ?_
 have h1:=h.a
 have h2:=h.b
 have h3:=h.n
 have e1:IntKind.i64.wrap ((A:Int)+1)=((A+1:Nat):Int):=by rw [w64 (by omega) (by omega)];omega
 have e2:IntKind.i64.wrap ((B:Int)+1)=((B+1:Nat):Int):=by rw [w64 (by omega) (by omega)];omega
 have e3:IntKind.i64.wrap (((A+1:Nat):Int)*((B+1:Nat):Int))=(((A+1)*(B+1):Nat):Int):=by rw [←Int.natCast_mul];exact w64 (by omega) (by omega)
 refine cc (c':=?z301) ?_ ?_
 case refine_1=>cbv<;>exact rfl
 try simp only [parD]
 obtain ⟨A1,hA1⟩:∃A1,A1=A+1:=⟨_,rfl⟩
 obtain ⟨B1,hB1⟩:∃B1,B1=B+1:=⟨_,rfl⟩
 rw [←hA1] at e1 e3 ⊢
 rw [←hB1] at e2 e3 ⊢
 obtain ⟨M,hM⟩:∃M,M=A1*B1:=⟨_,rfl⟩
 rw [←hM] at e3 ⊢
 refine A10 (fs e1 (fs e2 e3)) ?_;try with_reducible exact tt
theorem o_1ac {A B:Nat} {s:St} (hs:okT A B s):WellR 4 A B s.1 s.2.1 s.2.2:=.inl ⟨rfl,hs⟩
theorem ThS.good {A B:Nat} (h:ThS A B):GoodR 4 A B:=.inl ⟨rfl,h.gd⟩
end
section
open Go.RowKit
end
section
open Go.RowKit
end
section
open Go.RowKit
end
section
open Go.RowKit
end
section
open Go.RowKit
end
section
open Go.RowKit
theorem o_1ad (n:Nat):size (2^n)≤n/64+1:=by
 refine o_ni (o_ny _) ?_
 rw [o_nw,show 18446744073709551616=2^64 from rfl,←Nat.pow_mul]
 exact Nat.pow_lt_pow_right (by decide) (by omega)
theorem o_1ae {A B:Nat} (h1:1≤A) (h2:A≤8) (h3:B≤3):ThS A B where
 a1:=h1
 n:=Nat.le_trans (Nat.mul_le_mul (show A+1≤9 by omega) (show B+1≤4 by omega)) (by decide)
 b:=by omega
 a:=by omega
 gd:=⟨h1,by omega,by omega⟩
theorem o_1af {A B:Nat} {s:St}:vlQ 4 A B s=((s.1*2^s.2.1:Nat):Rat):=by
 unfold vlQ valR
 rw [if_pos rfl]
theorem o_1ag {A B:Nat} (h1:1≤A) (h2:A≤8) (h3:B≤3) {L:Sp} {e:Nat} (hL:SpOK e (okT A B) L) (he:e≤10000):LsOK 4 A B (atQ L) (2^e) 1 1 1000:=by
 have hl:=o_1a8 hL.uq hL.ky
 have h4:(A+1)*((B+1)*2)≤9*(4*2):=Nat.mul_le_mul (by omega) (Nat.mul_le_mul_right _ (by omega))
 refine ⟨Nat.le_trans (o_158 _) (by omega),hL.at.one,Nat.two_pow_pos _,by decide,by decide,by decide,by have:=o_1ad e;omega,Nat.le_trans (o_p8 (by decide)) (by decide),Nat.le_trans (o_p8 (by decide)) (by decide),Nat.le_trans (o_p8 (by decide)) (by decide),fun p hp=>o_1ac (hL.at.ky p hp),hL.at.gr,fun p hp=>?_⟩
 obtain ⟨a1,a2,-⟩:=hL.at.ky p hp
 rw [o_1af]
 refine o_19y ?_
 have:p.1.1*2^p.1.2.1≤8*2^3:=Nat.mul_le_mul (by omega) (Nat.pow_le_pow_right (by decide) (by omega))
 omega
end
section
open Go.RowKit
def smQ (K A B:Nat) (s:St) (n:Nat):Sp:=if K=4 then dstT A B s n else dstQ K A B s n
structure SmOK (K A B:Nat) (Q:Sp):Prop where
 uq:Uq Q
 one:exQ (fun _=>1) Q=1
 nn:∀p∈Q,0≤p.2
 ls:∃D C E V,LsOK K A B (atQ Q) D C E V
theorem LsOK.rs {k a w:Nat} {L:Sp} {D C E V:Nat} (h:LsOK k a w L D C E V):∀p∈L,RS p.2 90000:=fun p hp=>(h.gr p hp).rs h.dp h.cp (by
 have:=o_u7 C D
 have:=h.sd;have:=h.sc;omega)
end
section
open Go.RowKit
theorem o_1ah (s t:St) (l:Wm) (w:Nat):(getN s (addN l t w):Rat)=getN s l+(w:Rat)*(if s=t then 1 else 0):=by
 simp only [addN,o_18y]
 split
 ·rename_i e;subst e;rw [Rat.natCast_add,Rat.mul_one]
 ·rw [Rat.mul_zero,Rat.add_zero]
theorem o_1ai {ask:List Bool→St×Int} {D:List Bool→Rat} {s:St} (h01:∀pre,0≤D pre∧D pre≤1) (h8:∀pre,(ask pre).2=8→2*D pre=D (pre++[false])+D (pre++[true])) (h0:∀pre,(ask pre).2=0→D pre=if s=(ask pre).1 then 1 else 0):∀(d:Nat) (pre:List Bool) (X:Wm×Nat),
  (getN s (walkN ask d pre X).1:Rat)≤getN s X.1+((2^d:Nat):Rat)*D pre∧(getN s X.1:Rat)+X.2+((2^d:Nat):Rat)*D pre≤getN s (walkN ask d pre X).1+(walkN ask d pre X).2
 | 0,pre,(L,op)=>by
  obtain ⟨d0,d1⟩:=h01 pre
  have e:((2^0:Nat):Rat)=1:=rfl
  rw [e,Rat.one_mul]
  unfold walkN
  split
  ·rename_i h
   simp only
   rw [o_1ah,←h0 pre h]
   have e1:((1:Nat):Rat)=1:=rfl
   rw [e1]
   constructor<;>grind
  ·simp only
   rw [Rat.natCast_add]
   have e1:((1:Nat):Rat)=1:=rfl
   rw [e1]
   constructor<;>grind
 | d+1,pre,(L,op)=>by
  obtain ⟨d0,d1⟩:=h01 pre
  have e2:((2^(d+1):Nat):Rat)=((2^d:Nat):Rat)*2:=by rw [Nat.pow_succ,Rat.natCast_mul];rfl
  have hp:(0:Rat)≤((2^(d+1):Nat):Rat):=Rat.natCast_nonneg
  have m0:=Rat.mul_nonneg hp d0
  have m1:((2^(d+1):Nat):Rat)*D pre≤((2^(d+1):Nat):Rat):=by
   have:=Rat.mul_le_mul_of_nonneg_left d1 hp
   rwa [Rat.mul_one] at this
  unfold walkN
  split
  ·rename_i h
   obtain ⟨a1,a2⟩:=o_1ai h01 h8 h0 d (pre++[false]) (L,op)
   obtain ⟨b1,b2⟩:=o_1ai h01 h8 h0 d (pre++[true]) (walkN ask d (pre++[false]) (L,op))
   have e8:=h8 pre h
   rw [e2]
   have e9:((2^d:Nat):Rat)*2*D pre=((2^d:Nat):Rat)*D (pre++[false])+((2^d:Nat):Rat)*D (pre++[true]):=by
    rw [Rat.mul_assoc,e8,Rat.mul_add]
   rw [e9]
   simp only at a1 a2 b1 b2 ⊢
   constructor<;>grind
  ·split
   ·rename_i h
    simp only
    rw [o_1ah,←h0 pre h]
    constructor<;>grind
   ·simp only
    rw [Rat.natCast_add]
    constructor<;>grind
end
section

end
section
theorem o_1aj:Runs flipR CP.coin:=fun cs p hp=>by
 cases hx:cs.drop p with
 | nil=>rw [o_187 (o_189 hp hx)];rfl
 | cons b x =>
  obtain ⟨h1,h2,h3⟩:=o_188 hx
  exact h1
def bnP:Nat→Nat→CP Nat
 | 0,c=>.pure c
 | n+1,c=>CP.coin.bind fun b=>bnP n (if b then c+1 else c)
def binH (n c:Nat) (cs:List Bool) (p:Nat) (d:Bool):Nat×Int×Nat×Bool:=((binM cs n c p d).2.1,(binM cs n c p d).1,(binM cs n c p d).2.2.1,(binM cs n c p d).2.2.2)
theorem o_1ak:∀n c,Runs (binH n c) (bnP n c)
 | 0,c=>fun cs p hp=>rfl
 | n+1,c=>by
  refine o_18n o_1aj (G:=fun b=>binH n (if b then c+1 else c)) (fun b=>o_1ak n _) (fun cs p hp he=>?_) fun cs p hp he=>?_
  ·replace he:flipE cs p false=0:=he
   unfold binH
   rw [binM,if_pos he]
   rfl
  ·replace he:flipE cs p false=8:=he
   unfold binH
   rw [binM,if_neg (by rw [he];decide)]
   exact he
theorem bnP_E (g:Nat→Rat):∀n c,(bnP n c).E g=bex n fun k=>g (c+k)
 | 0,c=>rfl
 | n+1,c=>by
  show (CP.coin.bind fun b=>bnP n (if b then c+1 else c)).E g=_
  rw [CP.bind_E]
  show ((bnP n c).E g+(bnP n (c+1)).E g)/2=_
  rw [bnP_E g n c,bnP_E g n (c+1)]
  show _=mkRat 1 2*(bex n (fun k=>g (c+k))+bex n fun k=>g (c+(k+1)))
  have e:(fun k=>g (c+(k+1)))=fun k=>g (c+1+k):=funext fun k=>by rw [show c+(k+1)=c+1+k by omega]
  have h2:mkRat 1 2=1/2:=by rw [Rat.mkRat_eq_div];rfl
  rw [e,h2]
  generalize (bex n fun k=>g (c+k))=u
  generalize (bex n fun k=>g (c+1+k))=v
  grind
end
section
def thP:Nat→Nat→Nat→CP (Nat×Nat)
 | 0,y,t=>.pure (y,t)
 | n+1,y,t=>(bnP y 0).bind fun z=>thP n z (t+1)
def thinH (f:Bool) (n y t:Nat) (cs:List Bool) (p:Nat) (d:Bool):(Nat×Nat)×Int×Nat×Bool:=(((thinM cs f n y t p d).y,(thinM cs f n y t p d).t),(thinM cs f n y t p d).e,(thinM cs f n y t p d).p,(thinM cs f n y t p d).d)
theorem o_1al (f:Bool):∀n y t,Runs (thinH f n y t) (thP n y t)
 | 0,y,t=>fun cs p hp=>rfl
 | n+1,y,t=>by
  refine o_18n (o_1ak y 0) (G:=fun z=>thinH f n z (t+1)) (fun z=>o_1al f n z (t+1)) (fun cs p hp he=>?_) fun cs p hp he=>?_
  ·replace he:(binM cs y 0 p false).1=0:=he
   unfold thinH
   rw [thinM,if_pos he]
   rfl
  ·replace he:(binM cs y 0 p false).1=8:=he
   unfold thinH
   rw [thinM,if_neg (by rw [he];decide)]
   exact he
end
section
def dnP (A B:Nat):Nat→Nat→Nat→Bool→CP St
 | 0,y,t,f=>.pure (y,t,f)
 | k+1,y,t,f=>if A<y then (if t=B then .pure (A,t,true) else (thP 1 y t).bind fun z=>dnP A B k z.1 z.2 f) else .pure (y,t,f)
def dnH (A B k y t:Nat) (f:Bool) (cs:List Bool) (p:Nat) (d:Bool):St×Int×Nat×Bool:=(((downM cs A B k y t f p d).y,(downM cs A B k y t f p d).t,(downM cs A B k y t f p d).f),(downM cs A B k y t f p d).e,(downM cs A B k y t f p d).p,(downM cs A B k y t f p d).d)
theorem o_1am (A B:Nat):∀k y t f,Runs (dnH A B k y t f) (dnP A B k y t f)
 | 0,y,t,f=>fun cs p hp=>rfl
 | k+1,y,t,f=>by
  unfold dnP
  by_cases h1:A<y
  ·rw [if_pos h1]
   by_cases h2:t=B
   ·rw [if_pos h2]
    intro cs p hp
    show dnH A B (k+1) y t f cs p false=((A,t,true),0,p+0,false)
    unfold dnH downM
    rw [if_pos h1,if_pos h2]
    rfl
   ·rw [if_neg h2]
    refine o_18n (o_1al f 1 y t) (G:=fun z=>dnH A B k z.1 z.2 f) (fun z=>o_1am A B k z.1 z.2 f) (fun cs p hp he=>?_) fun cs p hp he=>?_
    ·replace he:(thinM cs f 1 y t p false).e=0:=he
     unfold dnH
     rw [downM,if_pos h1,if_neg h2,if_pos he]
     rfl
    ·replace he:(thinM cs f 1 y t p false).e=8:=he
     unfold dnH
     rw [downM,if_pos h1,if_neg h2,if_neg (by rw [he];decide)]
     exact he
  ·rw [if_neg h1]
   intro cs p hp
   show dnH A B (k+1) y t f cs p false=((y,t,f),0,p+0,false)
   unfold dnH downM
   rw [if_neg h1]
   rfl
theorem o_1an (cs:List Bool):∀(k p:Nat) (d:Bool),(halfR cs k p d).1=true→(halfR cs k p d).2.1=0
 | 0,p,d,h=>rfl
 | k+1,p,d,h=>by
  unfold halfR at h ⊢
  split
  ·rename_i h1
   rw [if_pos h1] at h
   exact o_1an cs k _ _ h
  ·rename_i h1
   rw [if_neg h1] at h
   cases h
def onP (A B y t:Nat) (f:Bool):CP St:=(halfP t).bind fun b=>if b then dnP A B (B-t+1) (y+1) t f else .pure (y,t,f)
def onH (A B y t:Nat) (f:Bool) (cs:List Bool) (p:Nat) (d:Bool):St×Int×Nat×Bool:=(((oneM cs A B y t f p d).y,(oneM cs A B y t f p d).t,(oneM cs A B y t f p d).f),(oneM cs A B y t f p d).e,(oneM cs A B y t f p d).p,(oneM cs A B y t f p d).d)
theorem o_1ao (A B y t:Nat) (f:Bool):Runs (onH A B y t f) (onP A B y t f):=by
 refine o_18n (o_18a t) (G:=fun b cs p d=>if b then dnH A B (B-t+1) (y+1) t f cs p d else ((y,t,f),0,p,d)) (fun b=>?_) (fun cs p hp he=>?_) fun cs p hp he=>?_
 ·cases b with
  | false=>exact o_18o (y,t,f)
  | true=>exact o_1am A B (B-t+1) (y+1) t f
 ·unfold onH oneM
  cases hb:(halfR cs t p false).1 with
  | true=>rfl
  | false=>simp only [Bool.false_eq_true,if_false];rw [he]
 ·unfold onH oneM
  cases hb:(halfR cs t p false).1 with
  | true=>rw [o_1an _ _ _ _ hb] at he;cases he
  | false=>simp only [Bool.false_eq_true,if_false];exact he
def tnP (A B:Nat):Nat→Nat→Nat→Bool→CP St
 | 0,y,t,f=>.pure (y,t,f)
 | n+1,y,t,f=>(onP A B y t f).bind fun s=>tnP A B n s.1 s.2.1 s.2.2
def tnH (A B n y t:Nat) (f:Bool) (cs:List Bool) (p:Nat) (d:Bool):St×Int×Nat×Bool:=(((addTM cs A B n y t f p d).y,(addTM cs A B n y t f p d).t,(addTM cs A B n y t f p d).f),(addTM cs A B n y t f p d).e,(addTM cs A B n y t f p d).p,(addTM cs A B n y t f p d).d)
theorem o_1ap (A B:Nat):∀n y t f,Runs (tnH A B n y t f) (tnP A B n y t f)
 | 0,y,t,f=>fun cs p hp=>rfl
 | n+1,y,t,f=>by
  refine o_18n (o_1ao A B y t f) (G:=fun s=>tnH A B n s.1 s.2.1 s.2.2) (fun s=>o_1ap A B n s.1 s.2.1 s.2.2) (fun cs p hp he=>?_) fun cs p hp he=>?_
  ·replace he:(oneM cs A B y t f p false).e=0:=he
   unfold tnH
   rw [addTM,if_pos he]
   rfl
  ·replace he:(oneM cs A B y t f p false).e=8:=he
   unfold tnH
   rw [addTM,if_neg (by rw [he];decide)]
   exact he
end
section
theorem o_1aq (s:St) (g:St→Rat):exQ g (binQ s)=bex s.1 fun k=>g (k,s.2.1+1,s.2.2):=by
 unfold binQ
 rw [o_19a s g (s.1+1) (Nat.le_refl _),o_197]
theorem th1_E (g:Nat×Nat→Rat) (y t:Nat):(thP 1 y t).E g=bex y fun k=>g (k,t+1):=by
 show ((bnP y 0).bind fun z=>thP 0 z (t+1)).E g=_
 rw [CP.bind_E]
 show (bnP y 0).E (fun a=>g (a,t+1))=_
 rw [bnP_E]
 simp only [Nat.zero_add]
theorem dn_E (A B:Nat) (g:St→Rat):∀(k y t:Nat) (f:Bool),t≤B→B<t+k→(dnP A B k y t f).E g=exQ g (downA A B (y,t,f))
 | 0,y,t,f,h1,h2=>by omega
 | k+1,y,t,f,h1,h2=>by
  unfold dnP
  by_cases hy:A<y
  ·rw [if_pos hy]
   by_cases ht:t=B
   ·rw [if_pos ht,o_19n (show ¬((y,t,f):St).1≤A by simp;omega) ht]
    show g (A,t,true)=_
    simp only [exQ];grind
   ·rw [if_neg ht,CP.bind_E,o_19o (show ¬((y,t,f):St).1≤A by simp;omega) (show ((y,t,f):St).2.1<B by simp;omega),o_131,o_1aq]
    rw [th1_E]
    congr 1
    funext z
    exact dn_E A B g k z (t+1) f (by omega) (by omega)
  ·rw [if_neg hy,o_19m (show ((y,t,f):St).1≤A by simp;omega)]
   show g (y,t,f)=_
   simp only [exQ];grind
theorem on_E (A B:Nat) (g:St→Rat) (y t:Nat) (f:Bool) (ht:t≤B):(onP A B y t f).E g=mkRat 1 (2^t)*exQ g (downA A B (y+1,t,f))+(1-mkRat 1 (2^t))*g (y,t,f):=by
 unfold onP
 rw [CP.bind_E,o_18b]
 simp only [Bool.false_eq_true,if_false,if_true]
 rw [dn_E A B g _ _ _ _ ht (by omega)]
 rfl
theorem o_1ar {A B:Nat} (g:St→Rat) {y t:Nat} {f:Bool} (h:okT A B (y,t,f)):(onP A B y t f).E g=exQ g (stepT A B (y,t,f)):=by
 obtain ⟨h1,h2,h3⟩:=h
 rw [on_E A B g y t f h2]
 unfold stepT
 rw [o_131,(o_132 _ _ _ _).2,o_19m (s:=(y,t,f)) h1]
 simp only [exQ]
 grind
theorem tn_E {A B:Nat} (g:St→Rat):∀(n y t:Nat) (f:Bool),okT A B (y,t,f)→(tnP A B n y t f).E g=exQ g (ofQ (stepT A B) (y,t,f) n)
 | 0,y,t,f,h=>by
  show g (y,t,f)=_
  simp only [ofQ,exQ];grind
 | n+1,y,t,f,h=>by
  rw [o_18s]
  show ((onP A B y t f).bind fun s=>tnP A B n s.1 s.2.1 s.2.2).E g=_
  rw [CP.bind_E,o_1ar _ h]
  exact o_19i fun p hp=>tn_E g n p.1.1 p.1.2.1 p.1.2.2 ((SpOK.stepT h).ky p hp)
end
section

end
section
open Go.RowKit
end
section
open Go.RowKit
section
variable {mg:St→St→Sp}
theorem o_1as (g:St→Rat) (x:St×Rat) (B:Sp):∀(j:Nat) (out:Sp),j≤B.length→Uq out→Uq (inG mg x B out j)∧exQ g (inG mg x B out j)=exQ g out+x.2*exQ (fun t=>exQ g (mg x.1 t)) (B.take j)
 | 0,out,_,h=>⟨h,by simp only [inG,List.take_zero,List.foldl_nil,exQ];grind⟩
 | j+1,out,hj,h=>by
  obtain ⟨h1,h2⟩:=o_1as g x B j out (by omega) h
  obtain ⟨h3,h4⟩:=o_12y g (x.2*B[j].2) (atQ (mg x.1 B[j].1)) (inG mg x B out j) h1
  rw [o_179 mg x B out j (by omega)]
  refine ⟨h3,?_⟩
  rw [h4,h2,ex_at,List.take_add_one,List.getElem?_eq_getElem (by omega:j<B.length),Option.toList,o_12p]
  simp only [exQ];grind
theorem o_1at (g:St→Rat) (A B:Sp):∀i,i≤A.length→Uq (outG mg A B i)∧exQ g (outG mg A B i)=exQ (fun s=>exQ (fun t=>exQ g (mg s t)) B) (A.take i)
 | 0,_=>by simp [outG,Uq,exQ]
 | i+1,hi=>by
  obtain ⟨h1,h2⟩:=o_1at g A B i (by omega)
  rw [o_17b mg A B i hi]
  obtain ⟨h3,h4⟩:=o_1as (mg:=mg) g A[i] B B.length (outG mg A B i) (Nat.le_refl _) h1
  refine ⟨h3,?_⟩
  rw [h4,h2,List.take_length,List.take_add_one,List.getElem?_eq_getElem (by omega:i<A.length),Option.toList,o_12p]
  simp only [exQ];grind
theorem o_1au (A B:Sp):Uq (mrgG mg A B):=by rw [←o_17c];exact (o_1at (fun _=>0) A B _ (Nat.le_refl _)).1
theorem o_1av (g:St→Rat) (A B:Sp):exQ g (mrgG mg A B)=exQ (fun s=>exQ (fun t=>exQ g (mg s t)) B) A:=by
 rw [←o_17c,(o_1at g A B _ (Nat.le_refl _)).2,List.take_length]
theorem o_1aw {A B:Sp} (hA:exQ (fun _=>1) A=1) (hB:exQ (fun _=>1) B=1) (hm:∀x∈A,∀y∈B,exQ (fun _=>1) (mg x.1 y.1)=1):exQ (fun _=>1) (mrgG mg A B)=1:=by
 rw [o_1av,o_19i (h:=fun _=>1) fun x hx=>?_]
 ·exact hA
 ·rw [o_19i (h:=fun _=>1) fun y hy=>hm x hx y hy];exact hB
theorem o_1ax {R:St→Prop} {A B:Sp} (hm:∀x∈A,∀y∈B,kyQ R (mg x.1 y.1)):kyQ R (mrgG mg A B):=by
 have h1:∀x∈A,∀(j:Nat) (out:Sp),j≤B.length→kyQ R out→kyQ R (inG mg x B out j):=by
  intro x hx j
  induction j with
  | zero=>intro out _ h p hp;exact h p (by simpa [inG] using hp)
  | succ j ih =>
   intro out hj h
   rw [o_179 mg x B out j (by omega)]
   exact o_15d (ih out (by omega) h) (ky_at (hm x hx _ (List.getElem_mem _)))
 have h2:∀i,i≤A.length→kyQ R (outG mg A B i):=by
  intro i
  induction i with
  | zero=>intro _ p hp;simp [outG] at hp
  | succ i ih =>
   intro hi
   rw [o_17b mg A B i hi]
   exact h1 _ (List.getElem_mem _) _ _ (Nat.le_refl _) (ih (by omega))
 rw [←o_17c]
 exact h2 _ (Nat.le_refl _)
end
section
variable {top:Nat} {c V:Nat→Rat} {M N:Rat}
end
end
section
def trH (R:TR):St×Int×Nat×Bool:=((R.y,R.t,R.f),R.e,R.p,R.d)
theorem o_1ay {α β:Type} {F:List Bool→Nat→Bool→α×Int×Nat×Bool} {f:CP α} (hf:Runs F f) (u:α→β) {H:List Bool→Nat→Bool→β×Int×Nat×Bool} (h:∀cs p,H cs p false=(u (F cs p false).1,(F cs p false).2)):Runs H (f.bind fun a=>.pure (u a)):=by
 refine o_18n hf (G:=fun a cs p d=>(u a,0,p,d)) (fun a=>o_18o (u a)) (fun cs p hp he=>?_) fun cs p hp he=>?_
 ·rw [h,←he]
 ·rw [h];exact he
theorem map_E {α β:Type} (f:CP α) (u:α→β) (g:β→Rat):(f.bind fun a=>.pure (u a)).E g=f.E fun a=>g (u a):=by rw [CP.bind_E];rfl
def rgA (K A B n:Nat) (s:St):CP St:=if K=4 then tnP A B n s.1 s.2.1 s.2.2 else (addP (stP K A) (topC B) n s.1 s.2.2).bind fun r=>.pure (r.1,0,r.2)
theorem o_1az {K A B:Nat} (hsr:SmallR K A B) {s:St} (hw:WellR K A B s.1 s.2.1 s.2.2) (n:Nat):Runs (fun cs p d=>trH (addRM cs K A B n s.1 s.2.1 s.2.2 p d)) (rgA K A B n s):=by
 obtain ⟨y,t,f⟩:=s
 unfold rgA addRM trH
 by_cases hk:K=4
 ·simp only [if_pos hk]
  exact o_1ap A B n y t f
 ·simp only [if_neg hk]
  rcases hsr with ⟨h,-⟩ | ⟨-,hG⟩
  ·exact absurd h hk
  rcases hw with ⟨h,-⟩ | ⟨-,-,h2,-⟩
  ·exact absurd h hk
  have hb:topC B≤15:=by
   have h3:2^B≤2^4:=Nat.pow_le_pow_right (by decide) hG.2.2
   unfold topC;omega
  exact o_1ay (o_18v (st:=fun cs=>stOf cs K A) (sp:=stP K A) (top:=topC B) (fun x hx=>o_18x hG (by omega)) n y f h2) (fun r=>(r.1,0,r.2)) fun cs p=>rfl
theorem rgA_E {K A B:Nat} (hsr:SmallR K A B) {s:St} (hw:WellR K A B s.1 s.2.1 s.2.2) (n:Nat) (g:St→Rat):(rgA K A B n s).E g=exQ g (smQ K A B s n):=by
 obtain ⟨y,t,f⟩:=s
 unfold rgA smQ
 by_cases hk:K=4
 ·simp only [if_pos hk]
  rcases hw with ⟨-,h⟩ | ⟨h,-⟩
  ·exact tn_E g n y t f h
  ·exact absurd hk h
 ·simp only [if_neg hk]
  rcases hsr with ⟨h,-⟩ | ⟨-,hG⟩
  ·exact absurd h hk
  rcases hw with ⟨h,-⟩ | ⟨-,h1,h2,h3⟩
  ·exact absurd h hk
  simp only at h1 h2 h3
  subst h1
  obtain ⟨c0,c1⟩:=o_15k hG
  rw [map_E,o_18u (sp:=stP K A) (top:=topC B) (c:=chP K A) (fun x hx g=>stP_E K A x g) _ n y f h2 h3]
  unfold dstQ
  refine o_19i fun p hp=>?_
  have h2:=(ok_of c0 c1 ⟨h2,rfl,h3⟩ n p hp).1.2.1
  obtain ⟨⟨p1,p2,p3⟩,q⟩:=p
  simp only at h2
  subst h2
  rfl
def agP (k a x r:Nat):CP Bool:=if k=1 then powP (a+1) a (x-r) else halfP (expOf k a x-expOf k a r)
theorem o_1b0 {k a w:Nat} (h:GoodS k a w) (x r:Nat):Runs (fun cs p d=>agOf cs k a x r p d) (agP k a x r):=fun cs p hp=>by
 unfold agP
 by_cases hk:k=1
 ·have ha:a≠0:=by have:=h.1;omega
  simp only [if_pos hk,agOf]
  exact o_18q (a+1) a ha (x-r) cs p hp
 ·have hag:agOf cs k a x r p false=halfR cs (expOf k a x-expOf k a r) p false:=by
   unfold agOf expOf
   rw [if_neg hk]
   split<;>rfl
  simp only [if_neg hk,hag]
  exact o_18a (expOf k a x-expOf k a r) cs p hp
theorem o_1b1 (a n:Nat):((a:Rat)/((a+1:Nat):Rat))^n=chM a n:=by
 unfold chM
 rw [Rat.mkRat_eq_div]
 rfl
theorem agP_E {k a w:Nat} (h:GoodS k a w) {x r:Nat} (hr:r≤x) (hx:x≤15) (g:Bool→Rat):(agP k a x r).E g=ratC k a r x*g true+(1-ratC k a r x)*g false:=by
 unfold agP ratC
 rw [if_pos hr]
 by_cases hk:k=1
 ·rw [if_pos hk,pow_E (Nat.lt_succ_self a) g (x-r),o_1b1]
  unfold chP
  rw [if_pos hk,if_pos hk,o_160 (gs_a h hk).1 hr]
 ·rw [if_neg hk,o_18b]
  unfold chP
  rw [if_neg hk,if_neg hk,o_15x (o_15u h hk hr hx)]
def cmP (k a top:Nat):Nat→Nat→Nat→Bool→CP (Nat×Bool)
 | 0,r,x,f=>.pure (x,f)
 | n+1,r,x,f=>if x=top then cmP k a top n (r+1) x true else (agP k a x r).bind fun b=>cmP k a top n (r+1) (if b then x+1 else x) f
def cmH (k a top n r x:Nat) (f:Bool) (cs:List Bool) (p:Nat) (d:Bool):(Nat×Bool)×Int×Nat×Bool:=(((mergeL (agOf cs k a) top n r x f p d).2.1,(mergeL (agOf cs k a) top n r x f p d).2.2.1),(mergeL (agOf cs k a) top n r x f p d).1,(mergeL (agOf cs k a) top n r x f p d).2.2.2.1,(mergeL (agOf cs k a) top n r x f p d).2.2.2.2)
theorem o_1b2 {k a w:Nat} (h:GoodS k a w) (top:Nat):∀n r x f,Runs (cmH k a top n r x f) (cmP k a top n r x f)
 | 0,r,x,f=>fun cs p hp=>rfl
 | n+1,r,x,f=>by
  unfold cmP
  by_cases hxt:x=top
  ·rw [if_pos hxt]
   have ih:=o_1b2 h top n (r+1) x true
   intro cs p hp
   have e:cmH k a top (n+1) r x f cs p false=cmH k a top n (r+1) x true cs p false:=by
    unfold cmH
    rw [mergeL,if_pos hxt]
   rw [e]
   exact ih cs p hp
  ·rw [if_neg hxt]
   refine o_18n (o_1b0 h x r) (G:=fun b=>cmH k a top n (r+1) (if b then x+1 else x) f) (fun b=>o_1b2 h top n (r+1) _ f) (fun cs p hp he=>?_) fun cs p hp he=>?_
   ·unfold cmH
    rw [mergeL,if_neg hxt,if_pos he]
   ·unfold cmH
    rw [mergeL,if_neg hxt,if_neg (by rw [he];decide)]
    exact he
def clsQ (next:Nat→St→Sp) (s:St):Nat→Sp
 | 0=>[(s,1)]
 | n+1=>timesQ (next n) (clsQ next s n)
theorem o_1b3:∀(n:Nat) (next:Nat→St→Sp) (g:St→Rat) (s:St),exQ g (clsQ next s (n+1))=exQ (fun t=>exQ g (clsQ (fun i=>next (i+1)) t n)) (next 0 s)
 | 0,next,g,s=>by
  show exQ g (timesQ (next 0) [(s,1)])=exQ (fun t=>exQ g [(t,1)]) (next 0 s)
  rw [o_131]
  have e:∀t:St,exQ g [(t,1)]=g t:=fun t=>by simp only [exQ];grind
  rw [o_18r e]
  simp only [exQ];grind
 | n+1,next,g,s=>by
  show exQ g (timesQ (next (n+1)) (clsQ next s (n+1)))=exQ (fun t=>exQ g (timesQ (next (n+1)) (clsQ (fun i=>next (i+1)) t n))) (next 0 s)
  rw [o_131,o_1b3 n next (fun t=>exQ g (next (n+1) t)) s]
  exact o_18r (fun t=>(o_131 g (next (n+1)) _).symm) _
theorem o_1b4 (top k a:Nat) (s:St):∀r,clQ top k a s r=clsQ (fun i=>stepQ top (ratC k a i)) s r
 | 0=>rfl
 | r+1=>by
  show timesQ _ _=timesQ _ _
  rw [o_1b4 top k a s r]
theorem cmP_E {k a w:Nat} (h:GoodS k a w) {top:Nat} (ht:top≤15) (g:Nat×Bool→Rat):∀(n r x:Nat) (f:Bool),x≤top→r≤x→r+n≤top→(f=true→x=top)→(cmP k a top n r x f).E g=exQ (fun s=>g (s.1,s.2.2)) (clsQ (fun i=>stepQ top (ratC k a (r+i))) (x,0,f) n)
 | 0,r,x,f,h1,h2,h3,h4=>by
  show g (x,f)=_
  simp only [clsQ,exQ];grind
 | n+1,r,x,f,h1,h2,h3,h4=>by
  have e:(fun i=>stepQ top (ratC k a (r+(i+1))))=fun i=>stepQ top (ratC k a (r+1+i)):=funext fun i=>by rw [show r+(i+1)=r+1+i by omega]
  rw [o_1b3,(o_133 _ top _ (x,0,f)).2,e]
  unfold cmP
  by_cases hxt:x=top
  ·rw [if_pos hxt,if_pos hxt]
   exact cmP_E h ht g n (r+1) x true h1 (by omega) (by omega) fun _=>hxt
  ·have hf0:f=false:=by
    cases f with
    | false=>rfl
    | true=>exact absurd (h4 rfl) hxt
   subst hf0
   rw [if_neg hxt,if_neg hxt,CP.bind_E,agP_E h h2 (by omega)]
   have i1:=cmP_E h ht g n (r+1) (x+1) false (by omega) (by omega) (by omega) (by simp)
   simp only [Bool.false_eq_true,if_false,if_true,Nat.add_zero]
   rw [i1]
   by_cases hrx:r=x
   ·subst hrx
    rw [o_16g h (by omega)]
    grind
   ·rw [cmP_E h ht g n (r+1) x false h1 (by omega) (by omega) (by simp)]
theorem thP_E (g:Nat×Nat→Rat) (f:Bool):∀(n y t:Nat),(thP n y t).E g=exQ (fun s=>g (s.1,s.2.1)) (thinQ (y,t,f) n)
 | 0,y,t=>by
  show g (y,t)=_
  simp only [thinQ,ofQ,exQ];grind
 | n+1,y,t=>by
  unfold thinQ
  rw [o_18s]
  show ((bnP y 0).bind fun z=>thP n z (t+1)).E g=_
  rw [CP.bind_E,bnP_E,o_1aq]
  congr 1
  funext z
  rw [Nat.zero_add]
  exact thP_E g f n z (t+1)
def mgR (K A B:Nat) (s o:St):Sp:=if K=4 then mgT A B s o else mgQ (topC B) K A s o
def rgM (K A B:Nat) (s o:St):CP St:=if K=4 then (thP (o.2.1-s.2.1) s.1 s.2.1).bind fun a=>(thP (s.2.1-o.2.1) o.1 o.2.1).bind fun b=>dnP A B (B-a.2+1) (a.1+b.1) a.2 (s.2.2 || o.2.2) else (cmP K A (topC B) o.1 0 s.1 s.2.2).bind fun r=>.pure (r.1,0,r.2 || o.2.2)
theorem o_1b5 {K A B:Nat} (hsr:SmallR K A B) (s o:St):Runs (fun cs p d=>trH (mergeRM cs K A B s.1 s.2.1 s.2.2 o.1 o.2.1 o.2.2 p d)) (rgM K A B s o):=by
 obtain ⟨y,t,f⟩:=s
 obtain ⟨z,u,g⟩:=o
 unfold rgM mergeRM
 by_cases hk:K=4
 ·simp only [if_pos hk]
  refine o_18n (o_1al f (u-t) y t) (G:=fun a cs p d=>trH (if (thinM cs g (t-u) z u p d).e=0 then downM cs A B (B-a.2+1) (a.1+(thinM cs g (t-u) z u p d).y) a.2 (f || g) (thinM cs g (t-u) z u p d).p (thinM cs g (t-u) z u p d).d else thinM cs g (t-u) z u p d)) (fun a=>?_) (fun cs p hp he=>?_) fun cs p hp he=>?_
  ·refine o_18n (o_1al g (t-u) z u) (G:=fun b=>dnH A B (B-a.2+1) (a.1+b.1) a.2 (f || g)) (fun b=>o_1am A B _ _ _ _) (fun cs p hp he=>?_) fun cs p hp he=>?_
   ·replace he:(thinM cs g (t-u) z u p false).e=0:=he
    simp only [if_pos he]
    rfl
   ·replace he:(thinM cs g (t-u) z u p false).e=8:=he
    rw [if_neg (by rw [he];decide)]
    exact he
  ·replace he:(thinM cs f (u-t) y t p false).e=0:=he
   unfold mergeTM
   simp only [if_pos he]
   rfl
  ·replace he:(thinM cs f (u-t) y t p false).e=8:=he
   unfold mergeTM
   simp only
   rw [if_neg (by rw [he];decide)]
   exact he
 ·simp only [if_neg hk]
  rcases hsr with ⟨h,-⟩ | ⟨-,hG⟩
  ·exact absurd h hk
  exact o_1ay (o_1b2 hG (topC B) z 0 y f) (fun r=>(r.1,0,r.2 || g)) fun cs p=>rfl
theorem rgM_E {K A B:Nat} (hsr:SmallR K A B) {s o:St} (hs:WellR K A B s.1 s.2.1 s.2.2) (ho:WellR K A B o.1 o.2.1 o.2.2) (g:St→Rat):(rgM K A B s o).E g=exQ g (mgR K A B s o):=by
 unfold rgM mgR
 by_cases hk:K=4
 ·simp only [if_pos hk]
  rcases hs with ⟨-,hs⟩ | ⟨h,-⟩
  rotate_left
  ·exact absurd hk h
  rcases ho with ⟨-,ho⟩ | ⟨h,-⟩
  rotate_left
  ·exact absurd hk h
  obtain ⟨y,t,f⟩:=s
  obtain ⟨z,u,fo⟩:=o
  unfold mgT
  rw [o_131,o_19t,ex_at,CP.bind_E,thP_E _ f]
  refine o_19i fun p hp=>?_
  rw [ex_at,CP.bind_E,thP_E _ fo]
  refine o_19i fun q hq=>?_
  have h1:=((SpOK.thin (y,t,f) (u-t)).ky p hp).2
  have h2:p.1.2.1=t+(u-t):=by rw [h1]
  have h3:=hs.2.1
  have h4:=ho.2.1
  simp only at h3 h4
  exact dn_E A B g _ _ _ _ (by simp only [h2];omega) (by simp only [h2];omega)
 ·simp only [if_neg hk]
  rcases hsr with ⟨h,-⟩ | ⟨-,hG⟩
  ·exact absurd h hk
  rcases hs with ⟨h,-⟩ | ⟨-,h1,h2,h3⟩
  ·exact absurd h hk
  rcases ho with ⟨h,-⟩ | ⟨-,h4,h5,h6⟩
  ·exact absurd h hk
  have hb:topC B≤15:=by
   have h3:2^B≤2^4:=Nat.pow_le_pow_right (by decide) hG.2.2
   unfold topC;omega
  obtain ⟨y,t,f⟩:=s
  obtain ⟨z,u,fo⟩:=o
  simp only at h1 h2 h3 h4 h5 h6
  subst h1
  unfold mgQ
  have e:=cmP_E hG hb (fun r=>g (r.1,0,r.2 || fo)) z 0 y f h2 (Nat.zero_le _) (by rw [Nat.zero_add];exact h5) h3
  simp only [Nat.zero_add] at e
  rw [o_131,o_1b4,map_E,e,←o_1b4]
  refine o_19i fun p hp=>?_
  have h2:p.1.2.1=0:=((cl_ok hG ⟨h2,rfl,h3⟩ z p hp).1).2.1
  obtain ⟨⟨p1,p2,p3⟩,q⟩:=p
  simp only at h2
  subst h2
  simp only [fullQ,exQ];grind
end
section
open Go.RowKit
theorem o_1b6 {D C M:Nat} {out:Sp} (h:∀p∈out,Gr D C p.2) {s:St} {x:Rat} (hx:Gr D M x):∀p∈addQ out s x,Gr D (C+M) p.2:=by
 intro p hp
 rcases o_134 hp with hp | rfl
 ·exact (h p hp).le (by omega)
 ·exact (o_153 h _).add hx
theorem o_1b7 {D C:Nat} {f:Bool} {x:St×Rat} {B out:Sp} (ho:∀p∈out,Gr D C p.2) (hB:∀y∈B,Gr D 1 (x.2*y.2)):∀j,j≤B.length→∀p∈joI f x B out j,Gr D (C+j) p.2
 | 0,_=>fun p hp=>ho p (by simpa [joI] using hp)
 | j+1,hj=>by
  rw [o_19p f x B out j hj]
  exact o_1b6 (o_1b7 ho hB j (by omega)) (hB _ (List.getElem_mem _))
theorem o_1b8 {D:Nat} {f:Bool} {A B:Sp} (hAB:∀x∈A,∀y∈B,Gr D 1 (x.2*y.2)):∀i,i≤A.length→∀p∈joO f A B i,Gr D (i*B.length) p.2
 | 0,_=>fun p hp=>by simp [joO] at hp
 | i+1,hi=>by
  rw [o_19q f A B i hi,Nat.add_mul,Nat.one_mul]
  exact o_1b7 (o_1b8 hAB i (by omega)) (hAB _ (List.getElem_mem _)) _ (Nat.le_refl _)
theorem o_1b9 (s:St):∀n,(thinQ s n).length≤s.1+1
 | n=>by
  have h:=SpOK.thin s n
  have h1:((thinQ s n).map (·.1)).length≤((List.range (s.1+1)).map fun k=>((k,s.2.1+n,s.2.2):St)).length:=by
   refine List.Nodup.length_le_of_subset h.uq fun t ht=>?_
   obtain ⟨p,hp,rfl⟩:=List.mem_map.1 ht
   obtain ⟨h1,h2⟩:=h.ky p hp
   refine List.mem_map.2 ⟨p.1.1,List.mem_range.2 (by omega),?_⟩
   rw [←h2]
  simpa using h1
set_option maxHeartbeats 4000000 in
theorem o_1ba (s:St) (z:Int) (n:Nat) (hz:max 0 z=n) (hK:s.1≤900) (hT:s.2.1+n≤1000) (hKn:(n+1)*s.1≤80000):Eqn Tryz.prog o_ek [.d (.agg (stD s)),.d (.int .i64 z)] [] (.mp 0) [spO (thinQ s n)]:=by
 have hsu:=o_13j s
 rw [show [(s,(1:Rat))]=thinQ s 0 from rfl] at hsu
 have hti:∀i,i<n→Eqn Tryz.prog o_a1 [.mp 0,.fn (.func o_gw) []] [spO (thinQ s i)] (.mp 1) [spO (thinQ s i),spO (thinQ s (i+1))]:=fun i hi=>by
  have h:=SpOK.thin s i
  have hl:=o_1b9 s i
  have hcl:∀t:St,(t.1≤s.1∧t.2=(s.2.1+i,s.2.2))→NextJ binQ (2^s.1) 1000 t∧Eqn Tryz.prog o_gw [.d (.agg (stD t))] [] (.mp 0) [spO (binQ t)]:=fun t ht =>
   ⟨((SpOK.bin t).mono ht.1 fun _ h=>h).nextJ (Nat.le_trans (o_1a6 t _) (by omega)) (by omega),o_1a3 t (by omega) (by rw [ht.2];simp only;omega)⟩
  have hef:i*s.1+s.1≤90000:=by
   have h1:(i+1)*s.1≤(n+1)*s.1:=Nat.mul_le_mul_right _ (by omega)
   rw [Nat.add_mul,Nat.one_mul] at h1
   omega
  exact o_1a5 (f:=o_gw) (next:=binQ) (fun t:St=>t.1≤s.1∧t.2=(s.2.1+i,s.2.2)) (thinQ s i) (2^s.1) (2^(i*s.1)) 1 1000 1000 (1000*1000) h.uq (fun p hp=>h.ky p (List.mem_filter.1 hp).1) h.nz (Nat.le_trans (List.length_filter_le _ _) (Nat.le_trans hl (by omega))) (Nat.le_trans hl (by omega)) (Nat.two_pow_pos _) (Nat.le_refl _) h.gr (Nat.two_pow_pos _) hcl (o_1a9 (by omega) (by omega) hef) (by omega) (by omega)
 refine Eqn.gen [1] o_em (by simp) (by simp) (by rfl) (by decide) (by simp) (by simp [spO]) ?_
 refine cc (c':=?z307) ?_ ?_
 case refine_1=>cbv<;>exact rfl
 try simp only [spO,stD] at hsu hti ⊢
 refine A00 ?_;try with_reducible exact tt
 refine CallS.nX (hsu) (R1 hz ?_);try with_reducible exact tt
 refine A10 hz ?_;try with_reducible exact tt
 refine AW.loopG (α:=Nat) (fun i=>setS (List.replicate 16 .junk) [(1,.d (.int .i64 z)),(2,.p 0 0),(5,.mp 1),(9,.d (.int .i64 n)),(10,.d (.int .i64 (i:Nat)))]) (fun i=>[some ⟨64,[.d (.int .i64 s.1),.d (.int .i64 s.2.1),.d (.bool s.2.2)]⟩,some ⟨1000391,(spD rcD (thinQ s i)).map .d⟩]) (fun i=>i≤n) (fun i=>n-i) 0 ?_ (Nat.zero_le _) ?_ ?_ ?_
 ·intro i hi;simp
 ·simp
 ·simp
 rintro i hi
 simp
 by_cases hi2:i<n
 ·have hi3:(i:Int)<n:=by omega
  have ew:IntKind.i64.wrap ((i:Int)+1)=((i+1:Nat):Int):=by rw [w64 (by omega) (by omega)];omega
  have ht:=hti i hi2
  refine A10 (fs hi2 hi3) ?_;try with_reducible exact tt
  refine CallS.g [1] (ht) (R1 ew ?_);try with_reducible exact tt
  refine A10 ew ?_;try with_reducible exact tt
  refine ⟨i+1,1,2,by omega,by omega,by omega,?_,?_⟩
  ·simp [swT,swH,sw,Ob.sw,V.ren,V.rens]
  ·simp [swT,swH,sw,Ob.sw,V.ren,V.rens]
 ·have h2:i=n:=by omega
  subst h2
  refine A00 ?_;try with_reducible exact tt
  done
end
end Go.Proofs.YtabnkmpkcfjkmaaGreatDoor.Am
