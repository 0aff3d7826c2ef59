/- Parts of the proof: PmfM, PmfN, Pmf1, Pmf4, Pmf2, Pmf3, Pmf5, Pmf6, Pmf7, SortK, SortM, SortO, Pmf8, PmfG, Pmf9, PmfA, PmfB, PmfK, PmfC, PmfI, PmfJ, PmfO, PmfP, PmfQ, PmfU, PmfR, PmfS, PmfT, PmfV, PmfW, PtM, PtN, TailN, FalN, PmfY, PmfZ, PmfCa, PmfCb, PmfCc, TailA, TailB, TailC, PmfD, PmfE, PmfF, PmfCd, TailD, TailE, TailF, TailG, Mor3, Mor4, Mor5, TailH, PtH, PtA. -/
import Derived.Test.YtjbcbbfhcbnncaaGreatDoorPd
set_option linter.unusedVariables false
set_option linter.unusedSimpArgs false
set_option maxRecDepth 100000
namespace Go.Proofs.YtjbcbbfhcbnncaaGreatDoor.Am
section
open Go.RowKit
@[simp] theorem o_vj (l:List D):V.toDs (l.map .d)=some l:=by induction l<;>simp_all [V.toDs]
abbrev St:=Nat×Nat×Bool
def stD (s:St):List D:=[.int .i64 s.1,.int .i64 s.2.1,.bool s.2.2]
@[simp] theorem o_vk (s:St):(stD s).length=3:=rfl
theorem o_vl (s t:St):eqKs [0,0,1] (stD s) (stD t)=some (decide (s=t)):=by
 obtain ⟨a,b,c⟩:=s
 obtain ⟨a',b',c'⟩:=t
 unfold stD eqKs
 simp only [eqK,if_true,eqKs]
 simp only [Option.some.injEq,Bool.and_true]
 rw [Bool.eq_iff_iff]
 simp only [Bool.and_eq_true,beq_iff_eq,decide_eq_true_eq,Prod.mk.injEq]
 constructor
 ·rintro ⟨h1,h2,h3⟩;exact ⟨by omega,by omega,h3⟩
 ·rintro ⟨h1,h2,h3⟩;exact ⟨by omega,by omega,h3⟩

abbrev Sp:=List (St×Rat)
section
variable (rc:Rat→List D) (hrc:∀q,(rc q).length=3)
def spD (l:Sp):List D:=l.flatMap fun p=>stD p.1++rc p.2
theorem o_vm (rc:Rat→List D) (hrc:∀q,(rc q).length=3) (l:Sp):(spD rc l).length=l.length*6:=by
 induction l with
 | nil=>rfl
 | cons p l ih=>rw [spD,List.flatMap_cons,List.length_append,←spD,ih];simp [hrc];omega
def idxQ (s:St):Sp→Option Nat
 | []=>none
 | p::l=>if s=p.1 then some 0 else (idxQ s l).map (·+1)
theorem o_vn (rc:Rat→List D) (hrc:∀q,(rc q).length=3) (s:St):∀l:Sp,mfind [0,0,1] 3 (stD s) l.length (spD rc l)=some (idxQ s l)
 | []=>rfl
 | p::l=>by
  have e1:(spD rc (p::l)).take 3=stD p.1:=by
   rw [spD,List.flatMap_cons,List.append_assoc,List.take_append_of_le_length (by simp),List.take_of_length_le (by simp)]
  have e2:(spD rc (p::l)).drop 6=spD rc l:=by
   rw [spD,List.flatMap_cons,List.drop_append,List.drop_eq_nil_of_le (by simp [hrc]),List.nil_append]
   simp [hrc,spD]
  simp only [List.length_cons,mfind,List.length_nil]
  rw [e1,o_vl,e2]
  by_cases h:s=p.1
  ·simp [h,idxQ]
  ·simp only [h,decide_false]
   rw [o_vn rc hrc s l]
   simp [idxQ,h]
def getQ (l:Sp) (s:St):Rat:=match l with
 | []=>0
 | p::r=>if s=p.1 then p.2 else getQ r s
def setQ (l:Sp) (s:St) (q:Rat):Sp:=match l with
 | []=>[(s,q)]
 | p::r=>if s=p.1 then (s,q)::r else p::setQ r s q
theorem o_vo (s t:St) (q:Rat):∀l:Sp,getQ (setQ l s q) t=if t=s then q else getQ l t
 | []=>by simp [setQ,getQ]
 | p::r=>by
  unfold setQ
  split
  ·rename_i e
   unfold getQ
   by_cases h:t=s
   ·simp [h]
   ·simp [h,show ¬t=p.1 from fun h'=>h (h'.trans e.symm)]
  ·rename_i e
   unfold getQ
   rw [o_vo s t q r]
   by_cases h:t=s
   ·subst h;simp [e]
   ·simp [h]
theorem o_vp (s:St) (q:Rat):∀l:Sp,(setQ l s q).map (·.1)=if s∈l.map (·.1) then l.map (·.1) else l.map (·.1)++[s]
 | []=>by simp [setQ]
 | p::r=>by
  unfold setQ
  split
  ·rename_i e;simp [e]
  ·rename_i e
   simp only [List.map_cons,o_vp s q r,List.mem_cons]
   by_cases h:s∈r.map (·.1)
   ·simp [h]
   ·simp [h,e]
theorem o_vq {s:St} {q:Rat} {l:Sp} (h:(l.map (·.1)).Nodup):((setQ l s q).map (·.1)).Nodup:=by
 rw [o_vp]
 split
 ·exact h
 ·rename_i hs
  rw [List.nodup_append]
  refine ⟨h,by simp,fun a ha b hb=>?_⟩
  simp at hb;subst hb
  exact fun e=>hs (e▸ha)
def lookD (z:List D) (s:St):Sp→D
 | []=>.agg z
 | p::r=>if s=p.1 then .agg (rc p.2) else lookD z s r
theorem o_vr (rc:Rat→List D) (hrc:∀q,(rc q).length=3) (s:St) (l:Sp) (z:List D):mlook [0,0,1] 3 true z (stD s) (spD rc l)=some (lookD rc z s l):=by
 unfold mlook
 have hn:(spD rc l).length/([0,0,1].length+3)=l.length:=by rw [o_vm rc hrc];simp
 rw [hn,o_vn rc hrc]
 simp only [Option.map_some,Option.some.injEq]
 have key:∀l:Sp,(match idxQ s l with
   | some i=>glD true (((spD rc l).drop (i*([0,0,1].length+3)+[0,0,1].length)).take 3)
   | none=>glD true z)=lookD rc z s l:=by
  intro l
  induction l with
  | nil=>simp [idxQ,glD,lookD]
  | cons p l ih =>
   by_cases h:s=p.1
   ·have e1:((spD rc (p::l)).drop 3).take 3=rc p.2:=by
     rw [spD,List.flatMap_cons,List.append_assoc,List.drop_append,List.drop_eq_nil_of_le (by simp),List.nil_append]
     simp [hrc]
    simp [idxQ,h,lookD,glD,e1]
   ·have e2:(spD rc (p::l)).drop 6=spD rc l:=by
     rw [spD,List.flatMap_cons,List.drop_append,List.drop_eq_nil_of_le (by simp [hrc]),List.nil_append]
     simp [hrc,spD]
    rw [lookD,if_neg h,←ih]
    simp only [idxQ,if_neg h]
    cases hi:idxQ s l with
    | none=>rfl
    | some i =>
     simp only [Option.map_some]
     have:(i+1)*([0,0,1].length+3)+[0,0,1].length=6+(i*([0,0,1].length+3)+[0,0,1].length):=by simp;omega
     rw [this,←List.drop_drop,e2]
 exact key l
theorem o_vs (rc:Rat→List D) (hrc:∀q,(rc q).length=3) (s:St) (l:Sp) (q:Rat):mset [0,0,1] 3 (stD s) (rc q) (spD rc l)=some (spD rc (setQ l s q)):=by
 unfold mset
 have hn:(spD rc l).length/([0,0,1].length+3)=l.length:=by rw [o_vm rc hrc];simp
 rw [hn,o_vn rc hrc]
 simp only [Option.map_some,Option.some.injEq]
 have key:∀l:Sp,(match idxQ s l with
   | some i=>(spD rc l).take (i*([0,0,1].length+3))++(stD s++rc q)++(spD rc l).drop ((i+1)*([0,0,1].length+3))
   | none=>spD rc l++(stD s++rc q))=spD rc (setQ l s q):=by
  intro l
  induction l with
  | nil=>simp [idxQ,setQ,spD]
  | cons p l ih =>
   have e2:(spD rc (p::l)).drop 6=spD rc l:=by
    rw [spD,List.flatMap_cons,List.drop_append,List.drop_eq_nil_of_le (by simp [hrc]),List.nil_append]
    simp [hrc,spD]
   have e3:spD rc (p::l)=(stD p.1++rc p.2)++spD rc l:=by rw [spD,List.flatMap_cons];rfl
   by_cases h:s=p.1
   ·simp only [idxQ,if_pos h,setQ]
    simp only [Nat.zero_mul,List.take_zero,Nat.zero_add,Nat.one_mul,List.nil_append]
    rw [show [0,0,1].length+3=6 from rfl,e2]
    rw [show spD rc ((s,q)::l)=(stD s++rc q)++spD rc l by rw [spD,List.flatMap_cons];rfl]
   ·simp only [idxQ,if_neg h,setQ]
    rw [show spD rc (p::setQ l s q)=(stD p.1++rc p.2)++spD rc (setQ l s q) by rw [spD,List.flatMap_cons];rfl,←ih]
    have hl6:(stD p.1++rc p.2).length=6:=by simp [hrc]
    cases hi:idxQ s l with
    | none=>simp only [Option.map_none];rw [e3];simp
    | some i =>
     simp only [Option.map_some]
     rw [show [0,0,1].length+3=6 from rfl]
     have t1:(spD rc (p::l)).take ((i+1)*6)=(stD p.1++rc p.2)++(spD rc l).take (i*6):=by
      rw [e3,List.take_append,List.take_of_length_le (by omega),hl6,show (i+1)*6-6=i*6 by omega]
     have t2:(spD rc (p::l)).drop ((i+1+1)*6)=(spD rc l).drop ((i+1)*6):=by
      rw [show (i+1+1)*6=6+(i+1)*6 by omega,←List.drop_drop,e2]
     rw [t1,t2]
     simp
 exact key l
end
end
section
open Go.RowKit
def addQ (l:Sp) (s:St) (x:Rat):Sp:=setQ l s (getQ l s+x)
def exQ (g:St→Rat):Sp→Rat
 | []=>0
 | p::l=>p.2*g p.1+exQ g l
def Uq (l:Sp):Prop:=(l.map (·.1)).Nodup
theorem o_vt (g:St→Rat) (s:St) (q:Rat):∀l:Sp,Uq l→exQ g (setQ l s q)=exQ g l-getQ l s*g s+q*g s
 | [],_=>by simp only [setQ,exQ,getQ];grind
 | p::r,h=>by
  have h':Uq r:=by unfold Uq at h ⊢;simp at h;exact h.2
  unfold setQ getQ
  split
  ·rename_i e
   simp only [exQ]
   rw [e];grind
  ·simp only [exQ]
   rw [o_vt g s q r h'];grind
theorem o_vu {s:St} {q:Rat} {l:Sp} (h:Uq l):Uq (addQ l s q):=o_vq h
theorem o_vv (g:St→Rat) (s:St) (q:Rat) (l:Sp) (h:Uq l):exQ g (addQ l s q)=exQ g l+q*g s:=by
 unfold addQ;rw [o_vt g s _ l h];grind
theorem o_vw (g:St→Rat) {l k:Sp} (h:l.Perm k):exQ g l=exQ g k:=by
 induction h with
 | nil=>rfl
 | cons x _ ih=>simp only [exQ,ih]
 | swap x y l=>simp only [exQ];grind
 | trans _ _ h1 h2=>rw [h1,h2]
theorem o_vx (g:St→Rat) (l k:Sp):exQ g (l++k)=exQ g l+exQ g k:=by
 induction l with
 | nil=>simp only [List.nil_append,exQ];grind
 | cons p l ih=>simp only [List.cons_append,exQ,ih];grind
theorem o_vy (g:St→Rat) (l:Sp):exQ g (l.filter fun p=>decide (p.2≠0))=exQ g l:=by
 induction l with
 | nil=>rfl
 | cons p l ih =>
  rw [List.filter_cons]
  split
  ·simp only [exQ,ih]
  ·rename_i h
   have:p.2=0:=by simpa using h
   simp only [exQ,ih,this];grind
def ltS (s t:St):Bool:=decide (s.1<t.1) || (decide (s.1=t.1)&&(decide (s.2.1<t.2.1) || (decide (s.2.1=t.2.1)&&(!s.2.2&&t.2.2))))
theorem o_vz (s:St):ltS s s=false:=by unfold ltS;simp
theorem o_w0 {s t u:St} (h1:ltS s t=true) (h2:ltS t u=true):ltS s u=true:=by
 obtain ⟨a,b,c⟩:=s;obtain ⟨a',b',c'⟩:=t;obtain ⟨a2,b2,c2⟩:=u
 unfold ltS at *
 simp only [Bool.or_eq_true,Bool.and_eq_true,decide_eq_true_eq,Bool.not_eq_true'] at *
 rcases h1 with h1 | ⟨h1,h1' | ⟨h1',h3,h4⟩⟩<;>rcases h2 with h2 | ⟨h2,h2' | ⟨h2',h5,h6⟩⟩<;>first | (left;omega) | (right;refine ⟨by omega,?_⟩;first | (left;omega) | (right;exact ⟨by omega,by assumption,by assumption⟩))
theorem o_w1 (s t:St):ltS s t=true∨s=t∨ltS t s=true:=by
 obtain ⟨a,b,c⟩:=s;obtain ⟨a',b',c'⟩:=t
 unfold ltS
 simp only [Bool.or_eq_true,Bool.and_eq_true,decide_eq_true_eq,Bool.not_eq_true',Prod.mk.injEq]
 rcases Nat.lt_trichotomy a a' with h | h | h
 ·left;left;exact h
 ·rcases Nat.lt_trichotomy b b' with h2 | h2 | h2
  ·left;right;exact ⟨h,.inl h2⟩
  ·cases c<;>cases c'<;>simp [h,h2]
  ·right;right;right;exact ⟨h.symm,.inl h2⟩
 ·right;right;left;exact h
def leP (p q:St×Rat):Bool:=!(ltS q.1 p.1)
theorem o_w2 (a b c:St×Rat) (h1:leP a b=true) (h2:leP b c=true):leP a c=true:=by
 unfold leP at *
 simp only [Bool.not_eq_true'] at *
 cases h:ltS c.1 a.1 with
 | false=>rfl
 | true =>
  rcases o_w1 b.1 c.1 with h3 | h3 | h3
  ·rw [o_w0 h3 h] at h1;cases h1
  ·rw [h3,h] at h1;cases h1
  ·rw [h3] at h2;cases h2
theorem o_w3 (a b:St×Rat):leP a b || leP b a:=by
 unfold leP
 rcases o_w1 a.1 b.1 with h | h | h
 ·have:ltS b.1 a.1=false:=by
   cases h2:ltS b.1 a.1 with
   | false=>rfl
   | true=>have:=o_w0 h h2;rw [o_vz] at this;cases this
  simp [this]
 ·simp [h,o_vz]
 ·have:ltS a.1 b.1=false:=by
   cases h2:ltS a.1 b.1 with
   | false=>rfl
   | true=>have:=o_w0 h h2;rw [o_vz] at this;cases this
  simp [this]
def nzQ (l:Sp):Sp:=l.filter fun p=>decide (p.2≠0)
def atQ (l:Sp):Sp:=(nzQ l).mergeSort leP
theorem o_w4 (l:Sp):(atQ l).Perm (nzQ l):=List.mergeSort_perm _ _
theorem o_w5 (g:St→Rat) (l:Sp):exQ g (atQ l)=exQ g l:=by rw [o_vw g (o_w4 l)];exact o_vy g l
theorem o_w6 {l:Sp} (h:Uq l):Uq (nzQ l):=by
 unfold Uq nzQ at *
 exact List.Sublist.nodup ((List.filter_sublist (l:=l)).map _) h
theorem o_w7 {l:Sp} (h:Uq l):Uq (atQ l):=by
 unfold Uq
 exact ((o_w4 l).map _).nodup_iff.2 (o_w6 h)
theorem o_w8 {a b:St×Rat}:∀{l:Sp},Uq l→a∈l→b∈l→a.1=b.1→a=b
 | [],_,h,_,_=>by cases h
 | p::l,hu,ha,hb,e=>by
  unfold Uq at hu
  rw [List.map_cons,List.nodup_cons] at hu
  rcases List.mem_cons.1 ha with h1 | h1<;>rcases List.mem_cons.1 hb with h2 | h2
  ·rw [h1,h2]
  ·exact absurd (show p.1∈l.map (·.1) from List.mem_map.2 ⟨b,h2,by rw [←e,h1]⟩) hu.1
  ·exact absurd (show p.1∈l.map (·.1) from List.mem_map.2 ⟨a,h1,by rw [e,h2]⟩) hu.1
  ·exact o_w8 hu.2 h1 h2 e
theorem o_w9 {l k:Sp} (hu:Uq l) (hp:k.Perm (nzQ l)) (hs:k.Pairwise fun a b=>ltS a.1 b.1=true):k=atQ l:=by
 have h2:(atQ l).Pairwise fun a b=>leP a b=true:=List.pairwise_mergeSort o_w2 o_w3 _
 refine List.Perm.eq_of_pairwise (le:=fun a b=>leP a b=true) ?_ (hs.imp ?_) h2 (hp.trans (o_w4 l).symm)
 ·intro a b ha hb h3 h4
  have ha':a∈nzQ l:=hp.mem_iff.1 ha
  have hb':b∈nzQ l:=(o_w4 l).mem_iff.1 hb
  have:a.1=b.1:=by
   unfold leP at h3 h4
   rcases o_w1 a.1 b.1 with h | h | h
   ·rw [h] at h4;simp at h4
   ·exact h
   ·rw [h] at h3;simp at h3
  exact o_w8 (o_w6 hu) ha' hb' this
 ·intro a b h
  unfold leP
  cases h2:ltS b.1 a.1 with
  | false=>rfl
  | true=>have:=o_w0 h h2;rw [o_vz] at this;cases this
def innQ (q:Rat) (out l:Sp):Sp:=l.foldl (fun o b=>addQ o b.1 (q*b.2)) out
def timesQ (next:St→Sp) (l:Sp):Sp:=(atQ l).foldl (fun out a=>innQ a.2 out (atQ (next a.1))) []
def eitQ (x:Rat) (s o:St):Sp:=addQ (addQ [] s x) o (1-x)
def stepQ (top:Nat) (c:Nat→Rat) (s:St):Sp:=if s.1=top then [((s.1,s.2.1,true),1)] else eitQ (c s.1) (s.1+1,s.2) s
def ofQ (next:St→Sp) (s:St):Nat→Sp
 | 0=>[(s,1)]
 | n+1=>timesQ next (ofQ next s n)
theorem o_wa (g:St→Rat) (q:Rat):∀(l out:Sp),Uq out→Uq (innQ q out l)∧exQ g (innQ q out l)=exQ g out+q*exQ g l
 | [],out,h=>⟨h,by simp only [innQ,List.foldl_nil,exQ];grind⟩
 | b::l,out,h=>by
  obtain ⟨h1,h2⟩:=o_wa g q l (addQ out b.1 (q*b.2)) (o_vu h)
  refine ⟨h1,?_⟩
  show exQ g (innQ q (addQ out b.1 (q*b.2)) l)=_
  rw [h2,o_vv g _ _ _ h]
  simp only [exQ];grind
theorem o_wb (g:St→Rat) (next:St→Sp):∀(l out:Sp),Uq out→Uq (l.foldl (fun out a=>innQ a.2 out (atQ (next a.1))) out)∧exQ g (l.foldl (fun out a=>innQ a.2 out (atQ (next a.1))) out)=exQ g out+exQ (fun s=>exQ g (next s)) l
 | [],out,h=>⟨h,by simp only [List.foldl_nil,exQ];grind⟩
 | a::l,out,h=>by
  obtain ⟨h0,h3⟩:=o_wa g a.2 (atQ (next a.1)) out h
  obtain ⟨h1,h2⟩:=o_wb g next l (innQ a.2 out (atQ (next a.1))) h0
  refine ⟨h1,?_⟩
  show exQ g (l.foldl (fun out a=>innQ a.2 out (atQ (next a.1))) (innQ a.2 out (atQ (next a.1))))=_
  rw [h2,h3,o_w5]
  simp only [exQ];grind
theorem o_wc (next:St→Sp) (l:Sp):Uq (timesQ next l):=(o_wb (fun _=>0) next (atQ l) [] (by simp [Uq])).1
theorem o_wd (g:St→Rat) (next:St→Sp) (l:Sp):exQ g (timesQ next l)=exQ (fun s=>exQ g (next s)) l:=by
 have h:=(o_wb g next (atQ l) [] (by simp [Uq])).2
 rw [o_w5] at h
 have e:exQ g []=0:=rfl
 rw [e] at h
 unfold timesQ
 rw [h];grind
theorem o_we (next:St→Sp) (s:St):∀n,Uq (ofQ next s n)
 | 0=>by simp [ofQ,Uq]
 | n+1=>o_wc _ _
theorem o_wf (g:St→Rat) (x:Rat) (s o:St):Uq (eitQ x s o)∧exQ g (eitQ x s o)=x*g s+(1-x)*g o:=by
 have h0:Uq ([]:Sp):=by simp [Uq]
 refine ⟨o_vu (o_vu h0),?_⟩
 unfold eitQ
 rw [o_vv g _ _ _ (o_vu h0),o_vv g _ _ _ h0]
 simp only [exQ];grind
theorem o_wg (g:St→Rat) (top:Nat) (c:Nat→Rat) (s:St):Uq (stepQ top c s)∧exQ g (stepQ top c s)=if s.1=top then g (s.1,s.2.1,true) else c s.1*g (s.1+1,s.2)+(1-c s.1)*g s:=by
 unfold stepQ
 split
 ·refine ⟨by simp [Uq],?_⟩
  simp only [exQ];grind
 ·exact o_wf g _ _ _
def okQ (top:Nat) (s:St):Prop:=s.1≤top∧s.2.1=0∧(s.2.2=true→s.1=top)
def oklQ (top:Nat) (l:Sp):Prop:=∀p∈l,okQ top p.1∧0≤p.2
theorem o_wh {top:Nat} {g h:St→Rat} (hgh:∀s,okQ top s→g s≤h s):∀{l:Sp},oklQ top l→exQ g l≤exQ h l
 | [],_=>Rat.le_refl
 | p::l,hl=>by
  have h1:=o_wh hgh (l:=l) fun q hq=>hl q (by simp [hq])
  obtain ⟨h2,h3⟩:=hl p (by simp)
  have h4:=hgh p.1 h2
  simp only [exQ]
  have h5:p.2*g p.1≤p.2*h p.1:=Rat.mul_le_mul_of_nonneg_left h4 h3
  grind
theorem o_wi {l:Sp} {s:St} {q:Rat} {p:St×Rat} (h:p∈setQ l s q):p∈l∨p=(s,q):=by
 induction l with
 | nil=>simp [setQ] at h;exact .inr h
 | cons r l ih =>
  unfold setQ at h
  split at h
  ·rcases List.mem_cons.1 h with h | h
   ·exact .inr h
   ·exact .inl (by simp [h])
  ·rcases List.mem_cons.1 h with h | h
   ·exact .inl (by simp [h])
   ·exact (ih h).imp (fun h=>by simp [h]) id
theorem o_wj {top:Nat} {l:Sp} (h:oklQ top l) (s:St):0≤getQ l s:=by
 induction l with
 | nil=>exact Rat.le_refl
 | cons p l ih =>
  unfold getQ
  split
  ·exact (h p (by simp)).2
  ·exact ih fun q hq=>h q (by simp [hq])
theorem o_wk {top:Nat} {l:Sp} (h:oklQ top l) {s:St} {q:Rat} (hs:okQ top s) (hq:0≤q):oklQ top (addQ l s q):=by
 intro p hp
 rcases o_wi hp with hp | rfl
 ·exact h p hp
 ·refine ⟨hs,?_⟩
  have:=o_wj h s
  show 0≤getQ l s+q
  grind
theorem o_wl {top:Nat} {l:Sp} (h:oklQ top l):oklQ top (atQ l):=fun p hp=>h p (List.mem_filter.1 ((o_w4 l).mem_iff.1 hp)).1
theorem o_wm {top:Nat} {q:Rat} (hq:0≤q):∀{l out:Sp},oklQ top out→oklQ top l→oklQ top (innQ q out l)
 | [],out,h,_=>h
 | b::l,out,h,hl=>by
  obtain ⟨h1,h2⟩:=hl b (by simp)
  exact o_wm (out:=addQ out b.1 (q*b.2)) (l:=l) hq (o_wk h h1 (Rat.mul_nonneg hq h2)) fun p hp=>hl p (by simp [hp])
theorem o_wn {top:Nat} {next:St→Sp} (hn:∀s,okQ top s→oklQ top (next s)) {l:Sp} (h:oklQ top l):oklQ top (timesQ next l):=by
 have key:∀(k out:Sp),oklQ top out→oklQ top k→oklQ top (k.foldl (fun out a=>innQ a.2 out (atQ (next a.1))) out):=by
  intro k
  induction k with
  | nil=>intro out h _;exact h
  | cons a k ih =>
   intro out ho hk
   obtain ⟨h1,h2⟩:=hk a (by simp)
   exact ih _ (o_wm h2 ho (o_wl (hn _ h1))) fun p hp=>hk p (by simp [hp])
 exact key _ _ (fun p hp=>by cases hp) (o_wl h)
theorem o_wo {top:Nat} {c:Nat→Rat} (h0:∀k,k<top→0≤c k) (h1:∀k,k<top→c k≤1) {s:St} (hs:okQ top s):oklQ top (stepQ top c s):=by
 obtain ⟨a,b,f⟩:=s
 obtain ⟨s1,s2,s3⟩:=hs
 simp only at s1 s2 s3
 unfold stepQ
 split
 ·rename_i e
  intro p hp
  simp at hp;subst hp
  refine ⟨⟨s1,s2,fun _=>e⟩,?_⟩
  exact (by decide:(0:Rat)≤1)
 ·rename_i e
  have hlt:a<top:=by simp only at e;omega
  have e0:=h0 a hlt
  have e1:=h1 a hlt
  have hf:f=false:=by
   cases f with
   | false=>rfl
   | true=>exact absurd (s3 rfl) (by omega)
  subst hf
  refine o_wk (o_wk (fun p hp=>by cases hp) ⟨by simp only;omega,s2,fun h=>by simp at h⟩ e0) ⟨s1,s2,s3⟩ ?_
  show (0:Rat)≤1-c a
  grind
theorem o_wp {top:Nat} {c:Nat→Rat} (h0:∀k,k<top→0≤c k) (h1:∀k,k<top→c k≤1) {s:St} (hs:okQ top s):∀n,oklQ top (ofQ (stepQ top c) s n)
 | 0=>fun p hp=>by
  simp [ofQ] at hp;subst hp
  exact ⟨hs,(by decide:(0:Rat)≤1)⟩
 | n+1=>o_wn (fun s hs=>o_wo h0 h1 hs) (o_wp h0 h1 hs n)
theorem o_wq {top:Nat} {c:Nat→Rat} (s:St):∀n,exQ (fun _=>1) (ofQ (stepQ top c) s n)=1
 | 0=>by simp only [ofQ,exQ];grind
 | n+1=>by
  show exQ (fun _=>1) (timesQ (stepQ top c) (ofQ (stepQ top c) s n))=1
  rw [o_wd]
  have:(fun t=>exQ (fun _=>(1:Rat)) (stepQ top c t))=fun _=>1:=by
   funext t
   rw [(o_wg (fun _=>1) top c t).2]
   split
   ·rfl
   ·grind
  rw [this,o_wq s n]
end
section
open Go.RowKit
@[simp] theorem o_wr (θ:Nat→Nat) (l:List D):V.rens θ (l.map V.d)=l.map V.d:=o_60 θ l
@[simp] theorem o_ws (n:Nat) (l:List D):V.lowl n (l.map V.d)=true:=o_61 n l
def rcD (q:Rat):List D:=[natW q.num.natAbs,.bool (decide (q.num<0)),natW (q.den-1)]
theorem o_wt (q:Rat):rD q = .agg (rcD q):=rfl
def zR:List D:=[.nilsl,.bool false,.nilsl]
theorem Sub1.agg2 {l r:List D} (h:Subs (l.map V.d) (r.map V.d)):Sub1 (.d (.agg l)) (.d (.agg r)):=fun m v k=>by
 rw [V.rep_d] at k ⊢
 unfold D.rep at k ⊢
 obtain ⟨vs,h1,h2,h3⟩:=k
 exact ⟨vs,h1,h2,V.reps_map_d.1 (h m vs (V.reps_map_d.2 h3))⟩
theorem o_wu:Sub1 (.d (.agg zR)) (.d (rD 0)):=Sub1.agg2 (Subs.cons Sub1.nil (Subs.cons (Sub1.refl _) (Subs.cons Sub1.nil (Subs.refl _))))
theorem o_wv (s:St):∀l:Sp,Sub1 (.d (lookD rcD zR s l)) (.d (rD (getQ l s)))
 | []=>o_wu
 | p::r=>by
  unfold lookD getQ
  split
  ·exact Sub1.refl _
  ·exact o_wv s r
def spO (l:Sp):Ob:=⟨1000391,(spD rcD l).map .d⟩
theorem o_ww (l:Sp) (s:St) (x:Rat) (h1:RS (getQ l s) 100000) (h2:RS x 100000):Eqn Tryz.prog o_ax [.mp 0,.d (.agg (stD s)),.d (rD x)] [spO l] (.tup []) [spO (addQ l s x)]:=by
 refine Eqn.gen [0] o_az (by simp) (by simp) (by rfl) (by decide) (by simp) (by simp [spO,o_61]) ?_
 have ha:Eqn Tryz.prog o_7l [.d (lookD rcD zR s l),.d (rD x)] [] (.d (rD (getQ l s+x))) []:=(o_p1 _ _ h1 h2).sub (Subs.cons (o_wv s l) (Subs.refl _))
 have hl:=o_vr rcD (fun _=>rfl) s l zR
 have hm:=o_vs rcD (fun _=>rfl) s l (getQ l s+x)
 have hn:=o_vm rcD (fun _=>rfl) l
 refine cc (c':=?z237) ?_ ?_
 case refine_1=>cbv<;>exact rfl
 try simp only [spO,o_wt,stD,zR,addQ,rcD] at ha hl hm hn ⊢
 generalize spD (fun q=>_) l=L at *
 generalize spD (fun q=>_) (setQ l s (getQ l s+x))=L2 at *
 refine A10 (fs hl (fs hm hn)) ?_;try with_reducible exact tt
 refine CallS.pu (ha) (R1 (fs hl (fs hm hn)) ?_);try with_reducible exact tt
end
section
open Go.RowKit
theorem o_wx:RS (1:Rat) 1:=by
 have:=RS.mk' (z:=1) (d:=1) (N:=1) (by decide) (by decide) (by decide)
 exact this
theorem rof1:Eqn Tryz.prog o_76 [.d (.int .i64 1)] [] (.d (rD 1)) []:=by
 have:=o_pq 1 (by omega)
 simpa using this
theorem rof0:Eqn Tryz.prog o_76 [.d (.int .i64 0)] [] (.d (rD 0)) []:=by
 have:=o_pq 0 (by omega)
 simpa using this
theorem o_wy (x:Rat) (s o:St) (hx:RS x 1000) (hso:s≠o):Eqn Tryz.prog o_bl [.d (rD x),.d (.agg (stD s)),.d (.agg (stD o))] [] (.mp 0) [spO (eitQ x s o)]:=by
 refine Eqn.gen [3] o_bn (by simp) (by simp) (by rfl) (by decide) (by simp) (by simp [spO]) ?_
 have h1:RS (1-x) 2000:=(o_wx.sub hx).le (by omega)
 have a1:=o_ww [] s x (by simp only [getQ];exact ⟨by decide,by decide⟩) (hx.le (by omega))
 have a2:=o_ww (addQ [] s x) o (1-x) (by rw [addQ,o_vo,if_neg (fun h=>hso h.symm)];show RS (0:Rat) 100000;exact ⟨by decide,by decide⟩) (h1.le (by omega))
 have hs:=o_p2 1 x (o_wx.le (by omega)) (hx.le (by omega))
 have ho:=rof1
 refine cc (c':=?z238) ?_ ?_
 case refine_1=>cbv<;>exact rfl
 try simp only [spO,o_wt,stD,eitQ,spD,List.flatMap_nil,List.map_nil] at a1 a2 hs ho ⊢
 generalize (addQ [] s x).flatMap _=L1 at *
 generalize (addQ (addQ [] s x) o (1-x)).flatMap _=L2 at *
 generalize rcD (1-x)=R1 at *
 simp only [rcD] at a1 hs ho ⊢
 refine A00 ?_;try with_reducible exact tt
 refine CallS.g [3] (a1) (R0 ?_);try with_reducible exact tt
 refine CallS.pu (ho) (R0 ?_);try with_reducible exact tt
 refine CallS.pu (hs) (R0 ?_);try with_reducible exact tt
 refine CallS.g [3] (a2) (R0 ?_);try with_reducible exact tt
 done
@[simp] theorem o_wz (ks:List Nat) (vw:Nat) (kl dv:List D):mset ks vw kl dv []=some (kl++dv):=by simp [mset,mfind]
theorem o_x0 (s:St):Eqn Tryz.prog o_8o [.d (.agg (stD s))] [] (.mp 0) [spO [(s,1)]]:=by
 refine Eqn.gen [1] o_8q (by simp) (by simp) (by rfl) (by decide) (by simp) (by simp [spO]) ?_
 have ho:=rof1
 refine cc (c':=?z239) ?_ ?_
 case refine_1=>cbv<;>exact rfl
 try simp only [spO,o_wt,stD,rcD,spD,List.flatMap_cons,List.flatMap_nil] at ho ⊢
 simp
 refine A00 ?_;try with_reducible exact tt
 refine CallS.pu (ho) (R0 ?_);try with_reducible exact tt

def chP (k a x:Nat):Rat:=if k=1 then chM a x else mkRat 1 (2^expOf k a x)
theorem o_x1 (e:Nat):halfD e=rD (mkRat 1 (2^e)):=by
 obtain ⟨h1,h2,h3⟩:=o_oi 1 (2^e) (Nat.two_pow_pos e)
 have hg:Nat.gcd (1:Int).natAbs (2^e)=1:=by simp
 rw [hg] at h1 h2
 unfold halfD rD
 rw [h1,h2,show decide ((mkRat 1 (2^e)).num<0)=false by rw [decide_eq_false_iff_not,h3];decide]
 simp
theorem o_x2 : MethOK Tryz.prog 182 "tallymark/chain.chance" o_gy := fun v w => by kernel_rfl
theorem o_x3 (a k:Nat) (h1:1≤a) (h2:a≤4096) (hk:k≤1023) (hb:bitsN (a+1)*k≤8192):Eqn Tryz.prog o_gy [.d (.int .i64 a),.d (.int .i64 k)] [] (.tup [.d (rD (chM a k)),.d (.int .i64 0)]) []:=by
 refine Eqn.pure o_h0 (o_kw _ _) ?_
 have h:=(o_rp a k h1 h2 hk hb).1
 rw [o_wt] at h ⊢
 refine cc (c':=?z240) ?_ ?_
 case refine_1=>cbv<;>exact rfl
 try simp only [rcD] at h ⊢
 refine G0 ?_;try with_reducible exact tt
 refine CallS.pu (h) (R0 ?_);try with_reducible exact tt
theorem o_x4 {k a w x : Nat} (h : GoodS k a w) (hx : x ≤ 15) : ∃ ti d g, MethOK Tryz.prog ti "tallymark/chain.chance" g ∧ kindD k a = .ifc ti d ∧ Eqn Tryz.prog g [.d d, .d (.int .i64 x)] [] (.tup [.d (rD (chP k a x)), .d (.int .i64 0)]) [] := by
 by_cases hk:k=1
 ·subst hk
  have ha:1≤a∧a≤4:=by
   rcases h.1 with ⟨-,h1,h2⟩ | ⟨h1,-⟩ | ⟨h1,-⟩
   ·exact ⟨h1,h2⟩
   ·omega
   ·omega
  refine ⟨_,_,_,o_x2,rfl,?_⟩
  rw [chP,if_pos rfl]
  have hb:bitsN (a+1)≤3:=o_lk (by omega)
  exact o_x3 a x ha.1 (by omega) (by omega) (Nat.le_trans (Nat.mul_le_mul hb hx) (by omega))
 ·obtain ⟨ti,d,g,h1,h2,h3⟩:=o_rf h hk hx
  rw [o_x1] at h3
  exact ⟨ti,d,g,h1,h2,by rw [chP,if_neg hk];exact h3⟩
theorem o_x5 {k a w x:Nat} (h:GoodS k a w) (hx:x<2^w-1):Eqn Tryz.prog o_c0 [.d (parD k a w),.d (.int .i64 x)] [] (.tup [.d (rD (chP k a x)),.d (.int .i64 0)]) []:=by
 refine Eqn.pure o_c2 (o_kw _ _) ?_
 have h2:2^w-1≤15:=by have:=Nat.pow_le_pow_right (n:=2) (by omega) h.2.2;omega
 have w2:w≤10:=by have:=h.2.2;omega
 have hc:=o_r4 h
 have hat:=o_r3 k a w w2 x (by omega) (by omega) hc
 have ht:=o_r2 k a w w2 hc
 have hkd:=o_q0 k a w
 obtain ⟨ti,d,g,hm,hd,hg⟩:=o_x4 (x:=x) h (by omega)
 rw [hd] at hkd
 rw [o_wt] at hg ⊢
 refine cc (c':=?z241) ?_ ?_
 case refine_1=>cbv<;>exact rfl
 try simp only [parD,rcD] at hat ht hg ⊢
 generalize 2^w-1=W at *
 have g1:¬x=W:=by omega
 have g2:¬(x:Int)=W:=by omega
 refine G1 (fs g1 g2) ?_;try with_reducible exact tt
 refine CallS.pf 2 1 ⟨3,_⟩ [.int .i64 x] (hat) (by first | rfl | (simp [g1,g2];done)) (R1 (fs g1 g2) ?_);try with_reducible exact tt
 refine CallS.pu (ht) (R1 (fs g1 g2) ?_);try with_reducible exact tt
 refine AW.cond rfl (fun h=>?_) (fun h=>?_)
 ·simp [g2] at h
 refine G0 ?_;try with_reducible exact tt
 refine CallS.pu (hkd) (R0 ?_);try with_reducible exact tt
 refine ⟨_,hm,?_⟩
 refine CallS.pu (hg) (R0 ?_);try with_reducible exact tt
theorem o_x6 {k a w:Nat} (h:GoodS k a w):Eqn Tryz.prog o_c0 [.d (parD k a w),.d (.int .i64 (2^w-1:Nat))] [] (.tup [.d (.agg zR),.d (.int .i64 0)]) []:=by
 refine Eqn.pure o_c2 (o_kw _ _) ?_
 have h2:2^w-1≤15:=by have:=Nat.pow_le_pow_right (n:=2) (by omega) h.2.2;omega
 have w2:w≤10:=by have:=h.2.2;omega
 have hc:=o_r4 h
 have hat:=o_r3 k a w w2 ((2^w-1:Nat):Int) (by omega) (Int.le_refl _) hc
 have ht:=o_r2 k a w w2 hc
 refine cc (c':=?z242) ?_ ?_
 case refine_1=>cbv<;>exact rfl
 try simp only [parD,zR] at hat ht ⊢
 generalize 2^w-1=W at *
 refine G0 ?_;try with_reducible exact tt
 refine CallS.pf 2 1 ⟨3,_⟩ [.int .i64 W] (hat) (by first | rfl | (simp;done)) (R0 ?_);try with_reducible exact tt
 refine CallS.pu (ht) (R0 ?_);try with_reducible exact tt
 refine A00 ?_;try with_reducible exact tt
theorem o_x7 (k a b:Int):Eqn Tryz.prog o_bx [.d (parD k a b)] [] (.d (parD k a b)) []:=by
 refine Eqn.pure o_bz Plain.ok ?_
 refine cc (c':=?z243) ?_ ?_
 case refine_1=>cbv<;>exact rfl
 try simp only [parD]
 refine A00 ?_;try with_reducible exact tt
end
section
open Go.RowKit
theorem o_x8 (x:Int):Eqn Tryz.prog o_fv [.d (.int .i64 x)] [] (.d (.bool false)) []:=by
 refine Eqn.pure o_fx Plain.ok ?_
 refine cc (c':=?z244) ?_ ?_
 case refine_1=>cbv<;>exact rfl
 refine A00 ?_;try with_reducible exact tt
def cmpG (x y:Int):Int:=if x<y then -1 else if y<x then 1 else 0
theorem o_x9 (x y:Int):Eqn Tryz.prog o_ej [.d (.int .i64 x),.d (.int .i64 y)] [] (.d (.int .i64 (cmpG x y))) []:=by
 refine Eqn.pure o_el Plain.ok ?_
 refine cc (c':=?z245) ?_ ?_
 case refine_1=>cbv<;>exact rfl
 have h1:=o_x8 x
 have h2:=o_x8 y
 unfold cmpG
 by_cases g1:x<y
 ·rw [if_pos g1]
  refine A12 g1 h1 h2 ?_;try with_reducible exact tt
 ·rw [if_neg g1]
  by_cases g2:y<x
  ·rw [if_pos g2]
   refine A12 (fs g1 g2) h1 h2 ?_;try with_reducible exact tt
  ·rw [if_neg g2]
   refine A12 (fs g1 g2) h1 h2 ?_;try with_reducible exact tt
theorem o_xa (f:Bool):Eqn Tryz.prog o_em [.d (.bool f)] [] (.d (.int .i64 ((if f then 1 else 0)))) []:=by
 refine Eqn.pure o_eo Plain.ok ?_
 refine cc (c':=?z246) ?_ ?_
 case refine_1=>cbv<;>exact rfl
 cases f
 ·refine A00 ?_;try with_reducible exact tt
 ·refine A00 ?_;try with_reducible exact tt
def orG (a b c:Int):Int:=if a≠0 then a else if b≠0 then b else c
theorem o_xb (a b c:Int):Eqn Tryz.prog o_eg [.d (.sl 3 [.int .i64 a,.int .i64 b,.int .i64 c])] [] (.d (.int .i64 (orG a b c))) []:=by
 refine Eqn.pure o_ei Plain.ok ?_
 refine cc (c':=?z247) ?_ ?_
 case refine_1=>cbv<;>exact rfl
 unfold orG
 by_cases ha:a=0
 ·subst ha
  by_cases hb:b=0
  ·subst hb
   by_cases hc:c=0
   ·subst hc
    refine A00 ?_;try with_reducible exact tt
    refine AW.rounds 4 ?_
    refine A00 ?_;try with_reducible exact tt
   ·refine A00 ?_;try with_reducible exact tt
    refine AW.rounds 4 ?_
    refine A10 hc ?_;try with_reducible exact tt
  ·refine A00 ?_;try with_reducible exact tt
   refine AW.rounds 4 ?_
   refine A10 hb ?_;try with_reducible exact tt
 ·refine A00 ?_;try with_reducible exact tt
  refine AW.rounds 4 ?_
  refine A10 ha ?_;try with_reducible exact tt
end
section
open Go.RowKit
def ordI (p q:St×Rat):Int:=orG (cmpG p.1.1 q.1.1) (cmpG p.1.2.1 q.1.2.1) (cmpG (if p.1.2.2 then 1 else 0) (if q.1.2.2 then 1 else 0))
theorem o_xc (p q:St×Rat):ordI p q<0↔ltS p.1 q.1=true:=by
 obtain ⟨⟨a,b,c⟩,x⟩:=p;obtain ⟨⟨a',b',c'⟩,x'⟩:=q
 unfold ordI orG cmpG ltS
 simp only [Bool.or_eq_true,Bool.and_eq_true,decide_eq_true_eq,Bool.not_eq_true']
 cases c<;>cases c'<;>simp<;>(repeat' split)<;>omega
theorem o_xd (p q:St×Rat) (x y z x' y' z':D):Eqn Tryz.prog o_c7 [.d (.agg [.int .i64 p.1.1,.int .i64 p.1.2.1,.bool p.1.2.2,x,y,z]),.d (.agg [.int .i64 q.1.1,.int .i64 q.1.2.1,.bool q.1.2.2,x',y',z'])] [] (.d (.int .i64 (ordI p q))) []:=by
 refine Eqn.pure o_c9 Plain.ok ?_
 refine cc (c':=?z248) ?_ ?_
 case refine_1=>cbv<;>exact rfl
 have t1:=o_xa p.1.2.2
 have t2:=o_xa q.1.2.2
 have c1:=o_x9 p.1.1 q.1.1
 have c2:=o_x9 p.1.2.1 q.1.2.1
 have c3:=o_x9 (if p.1.2.2 then 1 else 0) (if q.1.2.2 then 1 else 0)
 have ho:=o_xb (cmpG p.1.1 q.1.1) (cmpG p.1.2.1 q.1.2.1) (cmpG (if p.1.2.2 then 1 else 0) (if q.1.2.2 then 1 else 0))
 unfold ordI
 generalize cmpG (if p.1.2.2 then 1 else 0) (if q.1.2.2 then 1 else 0)=C3 at *
 generalize cmpG p.1.1 q.1.1=C1 at *
 generalize cmpG p.1.2.1 q.1.2.1=C2 at *
 generalize (if p.1.2.2 then (1:Int) else 0)=T1 at *
 generalize (if q.1.2.2 then (1:Int) else 0)=T2 at *
 generalize p.1.2.2=F1 at *
 generalize q.1.2.2=F2 at *
 refine A06B c1 c2 t1 t2 c3 c3 ?_;try with_reducible exact tt
 refine CallS.pf 4 1 ⟨3,[.d (.int .i64 C1),.d (.int .i64 C2),.d (.int .i64 C3)]⟩ [.int .i64 C1,.int .i64 C2,.int .i64 C3] (ho) (by first | rfl | (simp [-Bool.exists_bool];done)) (R0B ?_);try with_reducible exact tt

section
variable {aC:St×Rat→List D}
def rowA (aC:St×Rat→List D) (l:Sp):List V:=(l.flatMap aC).map .d
theorem o_xe (h6:∀p,(aC p).length=6) (l:Sp):(rowA aC l).length=l.length*6:=by
 rw [rowA,List.length_map,o_ps h6]
@[simp] theorem o_xf (n:Nat) (l:Sp):V.lowl n (rowA aC l)=true:=o_61 _ _
@[simp] theorem o_xg (θ:Nat→Nat) (l:Sp):V.rens θ (rowA aC l)=rowA aC l:=o_60 _ _
theorem o_xh (h6:∀p,(aC p).length=6) (l:Sp) (i:Nat) (h:i<l.length):((rowA aC l).drop (i*6)).take 6=(aC l[i]).map .d:=by
 rw [rowA,←List.map_drop,←List.map_take,o_pu h6 l i h]
theorem o_xi (l k:Sp):rowA aC (l++k)=rowA aC l++rowA aC k:=by simp [rowA]
def SortTo (L K:Sp):Prop:=∀K':Sp,K'.Perm L→K'.Pairwise (fun a b=>ltS a.1 b.1=true)→K'=K
end
end
section
open Go.RowKit
def topC (w:Nat):Nat:=2^w-1
def onQ (w:Nat) (s:St) (x:Rat):Sp:=if s.1=topC w then [((s.1,s.2.1,true),1)] else eitQ x (s.1+1,s.2) s
theorem o_xj {k a w:Nat} (h:GoodS k a w) (s:St) (hs:s.1≤topC w) (x:Rat) (hx:RS x 1000) (X:D) (hX:Sub1 (.d X) (.d (rD x))) (hX2:∃x0 x1 x2,X = .agg [x0,x1,x2]) :
  Eqn Tryz.prog o_c3 [.d (parD k a w),.d (.agg (stD s)),.d X] [] (.mp 0) [spO (onQ w s x)]:=by
 have h15:topC w≤15:=by have:=Nat.pow_le_pow_right (n:=2) (by omega) h.2.2;unfold topC;omega
 have w2:w≤10:=by have:=h.2.2;omega
 have hc:=o_r4 h
 have ht:=o_r2 k a w w2 hc
 have hl:=o_x7 k a w
 rw [show 2^w-1=topC w from rfl] at ht
 obtain ⟨x0,x1,x2,rfl⟩:=hX2
 obtain ⟨s1,s2,s3⟩:=s
 simp only at hs
 unfold onQ
 generalize topC w=W at *
 by_cases e:s1=W
 ·subst e
  rw [if_pos rfl]
  refine Eqn.gen [3] o_c5 (by simp) (by simp) (by rfl) (by decide) (by simp) (by simp [spO]) ?_
  have hsu:=o_x0 (s1,s2,true)
  refine cc (c':=?z250) ?_ ?_
  case refine_1=>cbv<;>exact rfl
  try simp only [spO,stD,parD] at ht hl hsu ⊢
  generalize spD rcD [((s1,s2,true),1)]=L at *
  refine A00 ?_;try with_reducible exact tt
  refine CallS.pu (hl) (R0 ?_);try with_reducible exact tt
  refine CallS.pu (ht) (R0 ?_);try with_reducible exact tt
  refine A00 ?_;try with_reducible exact tt
  refine CallS.nX (hsu) (R0 ?_);try with_reducible exact tt
 ·rw [if_neg e]
  have hei:=o_wy x (s1+1,s2,s3) (s1,s2,s3) hx (by simp)
  replace hei:=hei.sub (Subs.cons hX (Subs.refl _))
  have e1:¬(s1:Int)=(W:Int):=by omega
  have ew:IntKind.i64.wrap ((s1:Int)+1)=((s1+1:Nat):Int):=by rw [w64 (by omega) (by omega)];omega
  refine Eqn.gen [4] o_c5 (by simp) (by simp) (by rfl) (by decide) (by simp) (by simp [spO]) ?_
  refine cc (c':=?z251) ?_ ?_
  case refine_1=>cbv<;>exact rfl
  try simp only [spO,stD,parD] at ht hl hei ⊢
  generalize spD rcD _=L at *
  refine A00 ?_;try with_reducible exact tt
  refine CallS.pu (hl) (R0 ?_);try with_reducible exact tt
  refine CallS.pu (ht) (R1 (fs e e1) ?_);try with_reducible exact tt
  refine A10 (fs e (fs e1 ew)) ?_;try with_reducible exact tt
  refine CallS.nX (hei) (R1 ew ?_);try with_reducible exact tt
end
section
open Go.RowKit
theorem o_xk {k a w x:Nat} (h:GoodS k a w) (hx:x≤15):RS (chP k a x) 1000:=by
 unfold chP
 by_cases hk:k=1
 ·subst hk
  rw [if_pos rfl]
  have ha:1≤a∧a≤4:=by
   rcases h.1 with ⟨-,h1,h2⟩ | ⟨h1,-⟩ | ⟨h1,-⟩
   ·exact ⟨h1,h2⟩
   ·omega
   ·omega
  have hb:bitsN (a+1)≤3:=o_lk (by omega)
  exact (o_rp a x ha.1 (by omega) (by omega) (Nat.le_trans (Nat.mul_le_mul hb hx) (by omega))).2.le (by omega)
 ·rw [if_neg hk]
  have he:=o_re h hk hx
  exact RS.mk' (Nat.two_pow_pos _) (by show size 1≤1000;exact Nat.le_trans (by decide:size 1≤1) (by omega)) (Nat.le_trans (o_rg he) (by omega))
theorem o_xl {k a w:Nat} (h:GoodS k a w) (s:St) (hs:s.1≤topC w):Eqn Tryz.prog o_8c [.d (parD k a w),.d (.agg (stD s))] [] (.mp 0) [spO (stepQ (topC w) (chP k a) s)]:=by
 have h15:topC w≤15:=by have:=Nat.pow_le_pow_right (n:=2) (by omega) h.2.2;unfold topC;omega
 have hk4:¬(k:Int)=4:=by have:=h.1;omega
 have hk4':¬k=4:=by have:=h.1;omega
 have hl:=o_x7 k a w
 have hrs:=o_xk h (x:=s.1) (by omega)
 have hst:stepQ (topC w) (chP k a) s=onQ w s (chP k a s.1):=rfl
 rw [hst]
 have key:∃x0 x1 x2:D,Sub1 (.d (.agg [x0,x1,x2])) (.d (rD (if s.1=topC w then 0 else chP k a s.1)))∧Eqn Tryz.prog o_c0 [.d (parD k a w),.d (.int .i64 s.1)] [] (.tup [.d (.agg [x0,x1,x2]),.d (.int .i64 0)]) []:=by
  by_cases e:s.1=topC w
  ·refine ⟨_,_,_,by rw [if_pos e];exact o_wu,?_⟩
   have:=o_x6 h
   rw [show 2^w-1=s.1 from e.symm] at this
   exact this
  ·refine ⟨_,_,_,by rw [if_neg e];exact Sub1.refl _,o_x5 h (by unfold topC at *;omega)⟩
 obtain ⟨x0,x1,x2,hX,hch⟩:=key
 have hon:Eqn Tryz.prog o_c3 [.d (parD k a w),.d (.agg (stD s)),.d (.agg [x0,x1,x2])] [] (.mp 0) [spO (onQ w s (chP k a s.1))]:=by
  by_cases e:s.1=topC w
  ·rw [if_pos e] at hX
   have:=o_xj h s hs 0 (show RS (0:Rat) 1000 from ⟨by decide,by decide⟩) _ hX ⟨_,_,_,rfl⟩
   have e2:onQ w s 0=onQ w s (chP k a s.1):=by unfold onQ;rw [if_pos e,if_pos e]
   rw [e2] at this
   exact this
  ·rw [if_neg e] at hX
   exact o_xj h s hs _ hrs _ hX ⟨_,_,_,rfl⟩
 refine Eqn.gen [3] o_8e (by simp) (by simp) (by rfl) (by decide) (by simp) (by simp [spO]) ?_
 refine cc (c':=?z252) ?_ ?_
 case refine_1=>cbv<;>exact rfl
 try simp only [spO,stD,parD] at hl hch hon ⊢
 generalize spD rcD _=L at *
 refine A10 (fs hk4 hk4') ?_;try with_reducible exact tt
 refine CallS.pu (hl) (R0 ?_);try with_reducible exact tt
 refine CallS.pu (hch) (R0 ?_);try with_reducible exact tt
 refine A00 ?_;try with_reducible exact tt
 refine CallS.nX (hon) (R0 ?_);try with_reducible exact tt
theorem o_xm {k a w:Nat} (h:GoodS k a w) (s:St) (hs:s.1≤topC w):Eqn Tryz.prog o_8u [.d (.agg (stD s)),.p 0 0] [⟨62,[.d (.int .i64 k),.d (.int .i64 a),.d (.int .i64 w)]⟩] (.mp 1) [⟨62,[.d (.int .i64 k),.d (.int .i64 a),.d (.int .i64 w)]⟩,spO (stepQ (topC w) (chP k a) s)]:=by
 refine Eqn.gen [0,2] o_8w (by simp) (by simp) (by rfl) (by decide) (by simp) (by simp [spO]) ?_
 have hst:=o_xl h s hs
 refine cc (c':=?z253) ?_ ?_
 case refine_1=>cbv<;>exact rfl
 try simp only [spO,stD,parD] at hst ⊢
 generalize spD rcD _=L at *
 refine A00 ?_;try with_reducible exact tt
 refine CallS.nX (hst) (R0 ?_);try with_reducible exact tt
end
section
open Go.RowKit
def atomC (p:St×Rat):List D:=stD p.1++rcD p.2
theorem o_xn (p:St×Rat):(atomC p).length=6:=rfl
theorem o_xo (l:Sp):spD rcD l=l.flatMap atomC:=rfl
theorem o_xp (p q:St×Rat):Eqn Tryz.prog o_c7 [.d (.agg (atomC p)),.d (.agg (atomC q))] [] (.d (.int .i64 (ordI p q))) []:=o_xd p q _ _ _ _ _ _
def seenV (σ:List Nat):List V:=σ.map fun i:Nat=>V.d (.int .i64 (i:Int))
@[simp] theorem o_xq:∀σ:List Nat,seenOf (seenV σ)=some σ
 | []=>rfl
 | i::σ=>by
  have:=o_xq σ
  unfold seenV at *
  rw [List.map_cons,seenOf,if_pos (by omega),this]
  simp
@[simp] theorem o_xr (σ:List Nat) (i:Nat):seenV σ++[V.d (.int .i64 (i:Int))]=seenV (σ++[i]):=by simp [seenV]
@[simp] theorem o_xs (n:Nat) (σ:List Nat):V.lowl n (seenV σ)=true:=by
 induction σ with
 | nil=>rfl
 | cons i σ ih=>unfold seenV at *;simp [V.lowl,V.low,ih]
@[simp] theorem o_xt (θ:Nat→Nat) (σ:List Nat):V.rens θ (seenV σ)=seenV σ:=by
 induction σ with
 | nil=>rfl
 | cons i σ ih=>unfold seenV at *;simp [V.rens,V.ren,ih]
theorem o_xu:seenV []=[]:=rfl
def metQ (l:Sp) (σ:List Nat):Sp:=σ.flatMap fun i=>match l[i]? with
 | some p=>if p.2=0 then [] else [p]
 | none=>[]
theorem o_xv (l:Sp) (σ:List Nat) (i:Nat) (h:i<l.length):metQ l (σ++[i])=metQ l σ++if l[i].2=0 then [] else [l[i]]:=by
 simp [metQ,List.flatMap_append,List.getElem?_eq_getElem h]
theorem o_xw (l:Sp) (σ:List Nat) (hp:σ.Perm (List.range l.length)):(metQ l σ).Perm (nzQ l):=by
 have h1:(metQ l σ).Perm (metQ l (List.range l.length)):=List.Perm.flatMap_right _ hp
 refine h1.trans (List.Perm.of_eq ?_)
 have key:∀n,n≤l.length→metQ l (List.range n)=nzQ (l.take n):=by
  intro n
  induction n with
  | zero=>intro _;rfl
  | succ n ih =>
   intro hn
   rw [List.range_succ,o_xv l _ n (by omega),ih (by omega),List.take_add_one,List.getElem?_eq_getElem (by omega)]
   unfold nzQ
   rw [List.filter_append]
   congr 1
   simp only [Option.toList,List.filter_cons,List.filter_nil]
   by_cases h:l[n].2=0<;>simp [h]
 rw [key l.length (Nat.le_refl _),List.take_length]
theorem o_xx (l L:Sp) (hu:Uq l) (hp:L.Perm (nzQ l)):SortTo L (atQ l):=fun K' h1 h2=>o_w9 hu (h1.trans hp) h2
end
section
open Go.RowKit
theorem o_xy {x y z:St} (h1:ltS x y=false) (h2:ltS y z=false):ltS x z=false:=by
 cases h:ltS x z with
 | false=>rfl
 | true =>
  rcases o_w1 x y with h3 | h3 | h3
  ·rw [h3] at h1;cases h1
  ·rw [←h3,h] at h2;cases h2
  ·rw [o_w0 h3 h] at h2;cases h2
structure AtV (I:Nat→Prop) (w:World):Type where
 enc:List Value
 «at» : St × Rat
 rep : D.reps I w (atomC «at») enc
 one:∀u∈enc,u.oneCell'=true
theorem AtV.len {I:Nat→Prop} {w:World} (x:AtV I w):x.enc.length=6:=by rw [D.reps_len x.rep];rfl
theorem D.reps_split {I:Nat→Prop} {w:World}:∀{l k:List D} {vs:List Value},D.reps I w (l++k) vs→∃us ws,vs=us++ws∧D.reps I w l us∧D.reps I w k ws
 | [],k,vs,h=>⟨[],vs,rfl,D.reps_nil.2 rfl,h⟩
 | x::l,k,vs,h=>by
  obtain ⟨v,r,rfl,h1,h2⟩:=D.reps_cons'.1 h
  obtain ⟨us,ws,rfl,h3,h4⟩:=D.reps_split h2
  exact ⟨v::us,ws,rfl,D.reps_cons.2 ⟨h1,h3⟩,h4⟩
theorem o_xz {I : Nat → Prop} {w : World} : ∀ (L : Sp) (us : List Value), D.reps I w (L.flatMap atomC) us → (∀ u ∈ us, u.oneCell' = true) → ∃ dl : List (AtV I w), dl.map AtV.«at» = L ∧ dl.flatMap AtV.enc = us
 | [],us,h,_=>by
  simp at h
  exact ⟨[],rfl,by simp [h]⟩
 | p::L,us,h,h1=>by
  rw [List.flatMap_cons] at h
  obtain ⟨a,b,rfl,h2,h3⟩:=D.reps_split h
  obtain ⟨dl,h4,h5⟩:=o_xz L b h3 fun u hu=>h1 u (by simp [hu])
  exact ⟨⟨a,p,h2,fun u hu=>h1 u (by simp [hu])⟩::dl,by rw [List.map_cons,h4],by rw [List.flatMap_cons,h5]⟩
theorem o_y0 {I : Nat → Prop} {w : World} : ∀ dl : List (AtV I w), D.reps I w ((dl.map AtV.«at»).flatMap atomC) (dl.flatMap AtV.enc)
 | []=>by simp
 | x::dl=>by
  rw [List.map_cons,List.flatMap_cons,List.flatMap_cons]
  exact D.reps_append x.rep (o_y0 dl)
theorem o_y1 {I:Nat→Prop} {w:World}:∀dl:List (AtV I w),(dl.flatMap AtV.enc).length=dl.length*6
 | []=>rfl
 | x::dl=>by rw [List.flatMap_cons,List.length_append,o_y1 dl,x.len,List.length_cons];omega
theorem o_y2 {α:Type} {k:Nat} (enc:α→List Value) (hk:∀x,(enc x).length=k):∀(l:List α) (t:Nat) (h:t<l.length*k),∃x,l[t/k]?=some x∧(l.flatMap enc)[t]?=(enc x)[t%k]?
 | [],t,h=>by simp at h
 | x::l,t,h=>by
  have k0:0<k:=by
   rcases Nat.eq_zero_or_pos k with h0 | h0
   ·subst h0;simp at h
   ·exact h0
  rw [List.flatMap_cons]
  by_cases ht:t<k
  ·refine ⟨x,by rw [Nat.div_eq_of_lt ht];rfl,?_⟩
   rw [List.getElem?_append_left (by rw [hk];exact ht),Nat.mod_eq_of_lt ht]
  ·have hd:t/k=(t-k)/k+1:=by
    rw [show t=(t-k)+k by omega,Nat.add_div_right _ k0];simp
   have hm:t%k=(t-k)%k:=by
    conv=>lhs;rw [show t=(t-k)+k by omega,Nat.add_mod_right]
   obtain ⟨y,h1,h2⟩:=o_y2 enc hk l (t-k) (by rw [List.length_cons,Nat.add_mul] at h;omega)
   refine ⟨y,by rw [hd];exact h1,?_⟩
   rw [List.getElem?_append_right (by rw [hk];omega),hk,h2,hm]
theorem o_y3 {α:Type} [Inhabited α] {k:Nat} (enc:α→List Value) (hk:∀x,(enc x).length=k) (hfl:∀l:List α,(l.flatMap enc).length=l.length*k) (dl:List α):Go.Sort.flatK enc k dl.toArray=(dl.flatMap enc).toArray:=by
 apply Array.ext
 ·rw [Go.Sort.size_flatK];simp [hfl]
 ·intro t h1 h2
  have ht:t<dl.length*k:=by rw [Go.Sort.size_flatK] at h1;simpa using h1
  obtain ⟨x,e1,e2⟩:=o_y2 enc hk dl t ht
  have h3:=Go.Sort.get_flatK enc k dl.toArray t (by simpa using ht)
  rw [getElem!_pos _ t h1] at h3
  rw [h3]
  have e3:dl.toArray[t/k]! =x:=by simp [Array.getElem!_eq_getD,Array.getD_eq_getD_getElem?,e1]
  rw [e3]
  have k0:0<k:=by
   rcases Nat.eq_zero_or_pos k with h0 | h0
   ·subst h0;simp at ht
   ·exact h0
  have h4:t%k<(enc x).length:=by rw [hk];exact Nat.mod_lt _ k0
  rw [List.getElem?_eq_getElem h4] at e2
  have e4:(dl.flatMap enc)[t]'(by rw [hfl];exact ht)=(enc x)[t%k]:=by
   have h5:t<(dl.flatMap enc).length:=by rw [hfl];exact ht
   rw [List.getElem?_eq_getElem h5] at e2
   exact Option.some.inj e2
  rw [getElem!_pos (enc x) _ h4]
  simp only [List.getElem_toArray]
  exact e4.symm
end
section
open Go.RowKit
instance : Inhabited (St × Rat) := ⟨((0, 0, false), 0)⟩
section
variable {α:Type} [Inhabited α] (enc:α→List Value) (k:Nat)
theorem o_y4 (w:World) (b off n:Nat) (d:Array α) (os:Array Obj):(sortWorldK enc k w b off n d os).heap=w.heap.modify b (Go.Sort.onCells (Go.Sort.putCells id off (Go.Sort.flatK enc k d)))++os:=rfl
theorem o_y5 (w:World) (b off n:Nat) (d:Array α) (os:Array Obj) {c:Nat} (hc:c<w.heap.size) (h:c≠b):(sortWorldK enc k w b off n d os).heap[c]?=w.heap[c]?:=by
 rw [o_y4,Array.getElem?_append,if_pos (by simpa using hc),Array.getElem?_modify,if_neg (fun e=>h e.symm)]
theorem o_y6 (w:World) (b off n:Nat) (d:Array α) (os:Array Obj) {c:Array Value} {T:TypeId} {fr:Nat×Nat} (h:w.heap[b]?=some (.cells c T fr)) :
  (sortWorldK enc k w b off n d os).heap[b]?=some (.cells (Go.Sort.putCells id off (Go.Sort.flatK enc k d) c) T fr):=by
 have hc:b<w.heap.size:=(Array.getElem?_eq_some_iff.1 h).1
 rw [o_y4,Array.getElem?_append,if_pos (by simpa using hc),Array.getElem?_modify,if_pos rfl,h]
 rfl
theorem o_y7 (w:World) (b off n:Nat) (d:Array α) (os:Array Obj):(sortWorldK enc k w b off n d os).heap.size=w.heap.size+os.size:=by
 rw [o_y4,Array.size_append,Array.size_modify]
end
theorem o_y8 (us vs more:List Value) (h:us.length=vs.length):Go.Sort.putCells id 0 us.toArray (vs++more).toArray=(us++more).toArray:=by
 apply Array.ext_getElem?
 intro j
 rw [Go.Sort.putCells,Array.getElem?_mapIdx]
 simp only [List.getElem?_toArray,List.size_toArray,Nat.zero_le,true_and,Nat.zero_add,Nat.sub_zero]
 by_cases hj:j<us.length
 ·rw [List.getElem?_append_left hj,List.getElem?_append_left (by omega),List.getElem?_eq_getElem hj,List.getElem?_eq_getElem (by omega:j<vs.length)]
  simp [hj]
 ·rw [List.getElem?_append_right (by omega),List.getElem?_append_right (by omega),h]
  cases more[j-vs.length]? with
  | none=>rfl
  | some y=>simp [show ¬j<vs.length by omega]
theorem o_y9 {α:Type} [Inhabited α] (enc:α→List Value) (k:Nat) (w:World) (b n:Nat) (d:Array α) (os:Array Obj) {c:Nat} (hc:c<w.heap.size):(sortWorldK enc k w b 0 n d os).shape? c=w.shape? c:=by
 unfold World.shape?
 by_cases h:c=b
 ·subst h
  rw [o_y4,Array.getElem?_append,if_pos (by simpa using hc),Array.getElem?_modify,if_pos rfl]
  cases h1:w.heap[c]? with
  | none=>rfl
  | some o=>cases o<;>simp [Go.Sort.onCells,Go.Sort.putCells]
 ·rw [o_y5 enc k w b 0 n d os hc h]

theorem o_ya {W w:World} (l1:w.os=W.os) (l2:w.tape=W.tape) (l3:w.output=W.output) (l4:W.drawn≤w.drawn) (l5:W.heap.size≤w.heap.size) (l6:∀c,c<W.heap.size→w.heap[c]?=W.heap[c]?) :
  w=Go.Sort.grow (W.drewN (w.drawn-W.drawn)) (w.heap.extract W.heap.size w.heap.size):=by
 obtain ⟨w1,w2,w3,w4,w5⟩:=w
 obtain ⟨u1,u2,u3,u4,u5⟩:=W
 simp only at l1 l2 l3 l4 l5 l6
 subst l1 l2 l3
 show World.mk _ _ _ _ _=World.mk _ _ _ _ _
 congr 1
 ·apply Array.ext_getElem?
  intro j
  show w1[j]?=(u1++w1.extract u1.size w1.size)[j]?
  rw [Array.getElem?_append]
  split
  ·exact l6 j (by assumption)
  ·rename_i hj
   rw [Array.getElem?_extract]
   split
   ·congr 1;omega
   ·exact Array.getElem?_eq_none (by omega)
 ·show w3=u3+(w3-u3)
  omega

def cfA {I:Nat→Prop} {w:World} (x y:AtV I w):Int:=ordI x.at y.at
theorem ltA {I:Nat→Prop} {w:World} (x y:AtV I w):ltOf cfA x y=ltS x.at.1 y.at.1:=by
 unfold ltOf cfA
 cases h:ltS x.at.1 y.at.1 with
 | true=>exact decide_eq_true ((o_xc _ _).2 h)
 | false=>exact decide_eq_false fun h1=>by rw [(o_xc _ _).1 h1] at h;cases h
theorem o_yb (s:St):ltS s s=false:=by
 cases h:ltS s s with
 | false=>rfl
 | true=>simp [ltS] at h
theorem swoA {I:Nat→Prop} {w:World}:Go.Sort.SWO (ltOf (cfA (I:=I) (w:=w))) where
 irrefl x:=by rw [ltA];exact o_yb _
 trans x y z h1 h2:=by rw [ltA] at *;exact o_w0 h1 h2
 ntrans x y z h1 h2:=by rw [ltA] at *;exact o_xy h1 h2

theorem cmpA {m:Mem} (hb:m.base) (b:Nat) (hbI:¬m.I b) (hbs:b<m.w.heap.size) (N:Nat) [Inhabited (AtV m.I m.w)] :
  CmpLays Tryz.prog o_c7 #[] (AtV.enc (I:=m.I) (w:=m.w)) 6 cfA b 0 N m.w:=by
 intro n os dk hs x y
 obtain ⟨W,hW⟩:∃W,W=sortWorldK (AtV.enc (I:=m.I) (w:=m.w)) 6 m.w b 0 n dk os:=⟨_,rfl⟩
 rw [←hW]
 have hI:∀c,m.I c→W.heap[c]?=m.w.heap[c]?:=fun c hc=>by rw [hW];exact o_y5 _ _ _ _ _ _ _ _ (hb.imm c hc) fun e=>hbI (e▸hc)
 have hbase:Mem.base ⟨fun _=>none,m.I,W⟩:=⟨fun c hc=>by
   show c<W.heap.size
   rw [hW,o_y7]
   have:=hb.imm c hc
   omega,fun _ _ h=>(by cases h),hb.tabs.mono (fun _ h=>h) hI⟩
 have hx:=D.reps_mono (fun _ h=>h) hI _ _ x.rep
 have hy:=D.reps_mono (fun _ h=>h) hI _ _ y.rep
 have hr:=(o_xp x.at y.at).run ⟨fun _=>none,m.I,W⟩ [.agg x.enc.toArray,.agg y.enc.toArray] hbase
  ⟨_,_,rfl,⟨x.enc,rfl,x.one,hx⟩,_,_,rfl,⟨y.enc,rfl,y.one,hy⟩,rfl⟩ (by simp) (by simp) (by simp)
 have he:=o_6i o_c9 #[.agg x.enc.toArray,.agg y.enc.toArray] W
 rcases hr with ⟨v,h1,h2⟩ | ⟨h1,h2⟩
 ·rw [show ([.agg x.enc.toArray,.agg y.enc.toArray]:List Value).toArray = #[.agg x.enc.toArray,.agg y.enc.toArray] from rfl,he] at h1
  cases h1
 ·refine h2.mono ?_
  rintro e w' ⟨v,m',rfl,rfl,h⟩
  refine ⟨by rw [show v = .int .i64 (ordI x.at y.at) from h.rep];rfl,m'.w.drawn-W.drawn,m'.w.heap.extract W.heap.size m'.w.heap.size,?_⟩
  have l1:m'.w.os=W.os:=h.le.os
  have l2:m'.w.tape=W.tape:=h.le.tape
  have l3:m'.w.output=W.output:=h.le.output
  have l4:W.drawn≤m'.w.drawn:=h.le.drawn
  have l5:W.heap.size≤m'.w.heap.size:=h.le.size
  have l6:∀c,c<W.heap.size→m'.w.heap[c]?=W.heap[c]?:=fun c hc=>h.le.block c hc fun n hn=>absurd hn (by simp)
  exact o_ya l1 l2 l3 l4 l5 l6
end
section
open Go.RowKit
theorem o_yc {I:Nat→Prop} {w:World} [Inhabited (AtV I w)] (l:List (AtV I w)) (hn:(l.map fun x=>x.at.1).Nodup) (hs:Go.Sort.SortedIn (ltOf cfA) 0 l.length l.toArray) :
  (l.map AtV.«at»).Pairwise fun a b => ltS a.1 b.1 = true := by
 rw [List.pairwise_map,List.pairwise_iff_getElem]
 intro i j hi hj hij
 have h:=hs i j (Nat.zero_le _) hij hj
 rw [ltA,getElem!_pos l.toArray j (by simpa using hj),getElem!_pos l.toArray i (by simpa using hi),List.getElem_toArray,List.getElem_toArray] at h
 rcases o_w1 l[i].at.1 l[j].at.1 with h1 | h1 | h1
 ·exact h1
 ·exfalso
  have:=(List.getElem_inj (h₀:=by simpa using hi) (h₁:=by simpa using hj) hn).1 (by simpa using h1)
  omega
 ·rw [h1] at h;cases h

set_option maxHeartbeats 2000000 in
theorem o_yd (L:Sp) (hu:Uq L) (h0:1≤L.length) (hl:L.length<4611686018427387904) (K:Sp) (hK:SortTo L K) :
  Eqn Tryz.prog o_c6 [.own 0 6 L.length,.fn (.func o_c7) []] [⟨75,rowA atomC L⟩] (.tup []) [⟨75,rowA atomC K⟩]:=by
 refine ⟨by simp,by simp,by rfl,by simp [rowA,o_61],?_⟩
 intro m vs hb hv ho hinj htop
 obtain ⟨v1,r1,rfl,hv1,v2,r2,rfl,hv2,rfl⟩:=hv
 obtain ⟨b,t,k,cap,hρ,hsh,rfl,rfl,hcap,hmax⟩:=hv1
 obtain ⟨cs,rfl,rfl⟩:=hv2
 obtain ⟨b',us,more,hρ',hheap,hone,hrep,hnI⟩:=ho 0 _ rfl
 obtain rfl:b=b':=by rw [hρ] at hρ';exact Option.some.inj hρ'
 have hrep':D.reps m.I m.w (L.flatMap atomC) us:=V.reps_map_d.1 hrep
 rw [o_0 (show (75:Nat)<TG by decide)] at hheap
 have hbs:=hb.dom 0 b hρ
 obtain ⟨dl,hd1,hd2⟩:=o_xz L us hrep' hone
 have hlen:dl.length=L.length:=by rw [←hd1];simp
 haveI:Inhabited (AtV m.I m.w):=⟨dl.head fun e=>by rw [e] at hlen;simp at hlen;omega⟩
 have hfl:=o_y3 AtV.enc AtV.len o_y1 dl
 have hH:Go.Sort.HoldsK AtV.enc 6 m.w b 0 dl.toArray:=by
  unfold Go.Sort.HoldsK
  rw [hfl,hd2]
  intro j hj
  have hj':j<us.length:=by simpa using hj
  refine ⟨?_,?_⟩
  ·unfold World.cell?
   rw [hheap]
   simp [List.getElem?_append_left hj',hj']
  ·unfold World.frozen?
   simp [hheap]
 have main:=AnyQ.slices_SortFunc (ρ:=renA) sortL 6 aggAtom sizeAtom AtV.enc AtV.len (fun x v hv=>x.one v hv) cfA swoA o_c7 #[] b 0 cap dl.toArray m.w (fun vs w=>o_6i o_c9 vs w) (cmpA hb b hnI hbs _) hH hbs (by simp;omega)
 refine .inr ⟨sortL.f6.enters rfl _ _,?_⟩
 have e0:(dl.toArray.size:Nat)=L.length:=by simp [hlen]
 rw [e0] at main
 refine main.mono ?_
 rintro e w' ⟨rfl,d',n,os,hp,hs,rfl⟩
 obtain ⟨l',rfl⟩:∃l':List (AtV m.I m.w),d'=l'.toArray:=⟨d'.toList,by simp⟩
 have hl':l'.length=dl.length:=by have:=hp.1;simpa using this
 have hp':l'.Perm dl:=by
  have:=hp.2.2
  rw [←e0] at this
  have h2:(List.take dl.length l').Perm dl:=by simpa using this
  rwa [←hl',List.take_length] at h2
 have hfl':=o_y3 AtV.enc AtV.len o_y1 l'
 have hus:(l'.flatMap AtV.enc).length=us.length:=by rw [←hd2,o_y1,o_y1,hl']
 have hnod:(l'.map fun x=>x.at.1).Nodup:=by
  have:(dl.map fun x=>x.at.1)=L.map (·.1):=by rw [←hd1,List.map_map];rfl
  rw [(hp'.map _).nodup_iff,this];exact hu
 have hKe : l'.map AtV.«at» = K := hK _ (by rw [← hd1]; exact hp'.map _) (o_yc l' hnod (by rw [hl', hlen]; exact hs))
 have hblk:=o_y6 AtV.enc 6 m.w b 0 n l'.toArray os hheap
 rw [hfl',o_y8 _ _ _ hus] at hblk
 obtain ⟨W,hW⟩:∃W,W=sortWorldK AtV.enc 6 m.w b 0 n l'.toArray os:=⟨_,rfl⟩
 have hne:∀c,c<m.w.heap.size→c≠b→W.heap[c]?=m.w.heap[c]?:=fun c hc h=>by rw [hW];exact o_y5 _ _ _ _ _ _ _ _ hc h
 have hsz:m.w.heap.size≤W.heap.size:=by rw [hW,o_y7];omega
 have hshp:∀c,c<m.w.heap.size→W.shape? c=m.w.shape? c:=fun c hc=>by rw [hW];exact o_y9 _ _ _ _ _ _ _ hc
 have hI:∀c,m.I c→W.heap[c]?=m.w.heap[c]?:=fun c hc=>hne c (hb.imm c hc) fun e=>hnI (e▸hc)
 have l1:W.os=m.w.os:=by rw [hW];rfl
 have l2:W.tape=m.w.tape:=by rw [hW];rfl
 have l3:W.output=m.w.output:=by rw [hW];rfl
 have l4:m.w.drawn≤W.drawn:=by rw [hW];exact Nat.le_add_right _ _
 rw [←hW] at hblk ⊢
 have hle:m.le ⟨m.ρ,m.I,W⟩ (· < 1):=⟨fun _ _ h=>h,fun _ h=>h,l1,l2,l3,l4,hsz,fun c hc h=>hne c hc fun e=>h 0 (by decide) (by rw [e];exact hρ),hshp,hI,fun _ h=>.inl h,fun _ _ h=>.inl h⟩
 refine ⟨.tuple #[],⟨m.ρ,m.I,W⟩,rfl,rfl,⟨fun c hc=>Nat.lt_of_lt_of_le (hb.imm c hc) hsz,fun i c hc=>Nat.lt_of_lt_of_le (hb.dom i c hc) hsz,hb.tabs.mono (fun _ h=>h) hI⟩,hle,⟨[],rfl,rfl⟩,?_,?_,?_,?_⟩
 ·intro i ob _ hob
  match i,hob with
  | 0,hob =>
   simp only [List.getElem?_cons_zero,Option.some.injEq] at hob
   subst hob
   refine ⟨b,l'.flatMap AtV.enc,more,hρ,?_,?_,?_,hnI⟩
   ·rw [o_0 (show (75:Nat)<TG by decide)];exact hblk
   ·intro u hu
    rw [List.mem_flatMap] at hu
    obtain ⟨x,_,hx⟩:=hu
    exact x.one u hx
   ·refine V.reps_map_d.2 (D.reps_mono (fun _ h=>h) hI _ _ ?_)
    rw [←hKe]
    exact o_y0 l'
  | i+1,hob=>simp at hob
 ·intro i j c _ _ hi hj _ _
  simp at hi hj
  omega
 ·intro i hi;exact htop i (by simpa using hi)
 ·intro i c hi hc
  rw [show (⟨m.ρ,m.I,W⟩:Mem).ρ i=m.ρ i from rfl,htop i (by simpa using hi)] at hc
  cases hc
end
section
open Go.RowKit
@[simp] theorem o_ye (n s:Nat) (ds l:List D):V.frzs n s ds (l.map V.d)=l.map V.d:=by
 rw [o_58,List.map_map]
 apply List.map_congr_left
 intro x _
 simp
def slM (l:Sp) (σ:List Nat):List V:=setS (List.replicate 26 .junk) [(0,.mp 0),(3,if (metQ l σ).length=0 then .d .nilsl else .own 2 6 (metQ l σ).length),(7,.p 1 0)]
def hpM (l:Sp) (σ:List Nat):List (Option Ob):=[some (spO l),some ⟨1000000,.mp 0::.d (.int .i64 (l.length:Nat))::seenV σ⟩]++if (metQ l σ).length=0 then [] else [some ⟨75,rowA atomC (metQ l σ)⟩]
theorem o_yf (q:Rat):(cmpQ q 0≠0)↔q≠0:=by
 unfold cmpQ
 by_cases h1:q<0
 ·rw [if_pos h1];constructor
  ·intro _ h;subst h;exact absurd h1 (by decide)
  ·intro _ h;cases h
 ·rw [if_neg h1]
  by_cases h2:0<q
  ·rw [if_pos h2];constructor
   ·intro _ h;subst h;exact absurd h2 (by decide)
   ·intro _ h;cases h
  ·rw [if_neg h2];constructor
   ·intro h;exact absurd rfl h
   ·intro h;exact absurd (Rat.le_antisymm (Rat.not_lt.1 h2) (Rat.not_lt.1 h1)) h
set_option maxHeartbeats 4000000 in
theorem o_yg (l:Sp) (hu:Uq l) (h0:nzQ l≠[]) (hl:l.length≤1000000) (hr:∀p∈l,RS p.2 100000):Eqn Tryz.prog o_8f [.mp 0] [spO l] (.d (.sl (atQ l).length (spD rcD (atQ l)))) [spO l]:=by
 refine Eqn.gen [0] o_8h (by simp) (by simp) (by rfl) (by decide) (by simp) (by simp [spO]) ?_
 have hn:=o_vm rcD (fun _=>rfl) l
 refine cc (c':=?z254) ?_ ?_
 case refine_1=>cbv<;>exact rfl
 try simp only [spO]
 refine A10 hn ?_;try with_reducible exact tt
 refine AW.loopG (α:=List Nat) (fun σ=>slM l σ) (fun σ=>hpM l σ) (fun σ=>σ.Nodup∧∀i∈σ,i<l.length) (fun σ=>l.length-σ.length) [] ?_ ⟨by simp,by simp⟩ ?_ ?_ ?_
 ·intro σ _;unfold hpM;split<;>simp [spO]
 ·simp [slM,hpM,metQ]
 ·simp [hpM,metQ,spO,hn,o_xu]
 rintro σ ⟨hnd,hlt⟩
 have hbnd:σ.length≤l.length:=by
  have h2:σ.length≤(List.range l.length).length:=hnd.length_le_of_subset fun i hi=>List.mem_range.2 (hlt i hi)
  simpa using h2
 have ent:∀i (hi:i<l.length),∃(s1 s2:Nat) (s3:Bool) (q:Rat) (N1 N2 N3:D),l[i]=((s1,s2,s3),q)∧rcD q=[N1,N2,N3]∧RS q 100000∧((spD rcD l).drop (i*6)).take 3=[.int .i64 s1,.int .i64 s2,.bool s3]∧((spD rcD l).drop (i*6+3)).take 3=[N1,N2,N3]:=by
  intro i hi
  obtain ⟨⟨⟨s1,s2,s3⟩,q⟩,hp⟩:∃p,l[i]=p:=⟨_,rfl⟩
  have h6:=o_pu (n:=6) (f:=atomC) o_xn l i hi
  rw [hp,←o_xo] at h6
  have h1:((spD rcD l).drop (i*6)).take 3=(((spD rcD l).drop (i*6)).take 6).take 3:=by rw [List.take_take];rfl
  have h2:((spD rcD l).drop (i*6+3)).take 3=(((spD rcD l).drop (i*6)).take 6).drop 3:=by rw [←List.drop_drop];simp [List.drop_take]
  refine ⟨s1,s2,s3,q,_,_,_,hp,rfl,hr ((s1,s2,s3),q) (by have:=List.getElem_mem hi;rw [hp] at this;exact this),?_,?_⟩
  ·rw [h1,h6];rfl
  ·rw [h2,h6];rfl
 have allp:(∀i,i<l.length→i∈σ)→σ.Perm (List.range l.length):=fun hall=>(List.perm_ext_iff_of_nodup hnd List.nodup_range).2 fun i=>⟨fun h=>List.mem_range.2 (hlt i h),fun h=>hall i (List.mem_range.1 h)⟩
 have ho:=rof0
 have h12:(nzQ l).length≤1000000:=Nat.le_trans (List.length_filter_le _ _) hl
 by_cases m0:(metQ l σ).length=0
 ·have mz:metQ l σ=[]:=List.eq_nil_of_length_eq_zero m0
  rw [slM,hpM,if_pos m0,if_pos m0]
  simp [spO]
  refine A10 hn ?_;try with_reducible exact tt
  refine ⟨fun i hi hin=>?_,fun hall=>?_⟩
  ·obtain ⟨s1,s2,s3,q,N1,N2,N3,hp,hN,hq,hK,hV⟩:=ent i hi
   have hc:=o_p3 q 0 hq (show RS (0:Rat) 100000 from ⟨by decide,by decide⟩)
   have hms:=o_xv l σ i hi
   rw [hp] at hms
   have hR:(σ++[i]).Nodup∧∀j∈σ++[i],j<l.length:=by
    refine ⟨by rw [List.nodup_append];exact ⟨hnd,by simp,fun a ha b hb e=>by simp at hb;subst hb;exact hin (e▸ha)⟩,fun j hj=>?_⟩
    rcases List.mem_append.1 hj with hj | hj
    ·exact hlt j hj
    ·simp at hj;subst hj;exact hi
   have hl1:(σ++[i]).length≤l.length:=by
    have h2:(σ++[i]).length≤(List.range l.length).length:=hR.1.length_le_of_subset fun j hj=>List.mem_range.2 (hR.2 j hj)
    simpa using h2
   rw [List.length_append,List.length_singleton] at hl1
   have hz0:rcD 0=[natW 0,.bool false,natW 0]:=rfl
   rw [o_wt,o_wt,hN] at hc
   rw [o_wt] at ho
   rw [hz0] at hc ho
   refine A10 (fs hi (fs hn (fs hK hV))) ?_;try with_reducible exact tt
   refine CallS.pu (ho) (R1 (fs hi (fs hn (fs hK hV))) ?_);try with_reducible exact tt
   refine CallS.pu (hc) (R0 ?_);try with_reducible exact tt
   by_cases hq0:q=0
   ·have hc0:cmpQ q 0=0:=Classical.byContradiction fun h=>(o_yf q).1 h hq0
    refine A10 hc0 ?_;try with_reducible exact tt
    have e':metQ l (σ++[i])=[]:=by rw [hms,mz];simp [hq0]
    refine ⟨σ++[i],1,1,⟨by omega,by omega,by omega,by omega⟩,hR,by simp;omega,?_,?_⟩
    ·simp [slM,hpM,e',spO,swT,swH,sw,Ob.sw,V.ren,V.rens]
    ·simp [slM,hpM,e',spO,swT,swH,sw,Ob.sw,V.ren,V.rens]
   ·have hc0:¬cmpQ q 0=0:=(o_yf q).2 hq0
    refine A10 hc0 ?_;try with_reducible exact tt
    have e':metQ l (σ++[i])=[((s1,s2,s3),q)]:=by rw [hms,mz];simp [hq0]
    refine ⟨σ++[i],2,5,⟨by omega,by omega,by omega,by omega⟩,hR,by simp;omega,?_,?_⟩
    ·simp [slM,hpM,e',spO,swT,swH,sw,Ob.sw,V.ren,V.rens]
    ·simp [slM,hpM,e',spO,swT,swH,sw,Ob.sw,V.ren,V.rens,rowA,atomC,stD,hN]
  ·exfalso
   have hp:=o_xw l σ (allp hall)
   rw [mz] at hp
   exact h0 (List.Perm.eq_nil hp.symm)
 ·obtain ⟨M,hM⟩:∃M,M=metQ l σ:=⟨_,rfl⟩
  have hMl:=o_xe o_xn M
  rw [slM,hpM,if_neg m0,if_neg m0]
  rw [←hM] at m0 ⊢
  have hmp:0<M.length:=by omega
  have hmM:M.length≤l.length:=by
   rw [hM]
   have key:∀τ:List Nat,(metQ l τ).length≤τ.length:=by
    intro τ
    induction τ with
    | nil=>simp [metQ]
    | cons j τ ih =>
     have:metQ l (j::τ)=(match l[j]? with | some p=>if p.2=0 then [] else [p] | none=>[])++metQ l τ:=by unfold metQ;exact List.flatMap_cons
     rw [this,List.length_append]
     have h1:(match l[j]? with | some p=>if p.2=0 then [] else [p] | none=>[]:Sp).length≤1:=by
      split
      ·split<;>simp
      ·simp
     simp only [List.length_cons];omega
   exact Nat.le_trans (key σ) hbnd
  simp [spO]
  refine A10 hn ?_;try with_reducible exact tt
  refine ⟨fun i hi hin=>?_,fun hall=>?_⟩
  ·obtain ⟨s1,s2,s3,q,N1,N2,N3,hp,hN,hq,hK,hV⟩:=ent i hi
   have hc:=o_p3 q 0 hq (show RS (0:Rat) 100000 from ⟨by decide,by decide⟩)
   have hms:=o_xv l σ i hi
   rw [hp,←hM] at hms
   have hR:(σ++[i]).Nodup∧∀j∈σ++[i],j<l.length:=by
    refine ⟨by rw [List.nodup_append];exact ⟨hnd,by simp,fun a ha b hb e=>by simp at hb;subst hb;exact hin (e▸ha)⟩,fun j hj=>?_⟩
    rcases List.mem_append.1 hj with hj | hj
    ·exact hlt j hj
    ·simp at hj;subst hj;exact hi
   have hl1:(σ++[i]).length≤l.length:=by
    have h2:(σ++[i]).length≤(List.range l.length).length:=hR.1.length_le_of_subset fun j hj=>List.mem_range.2 (hR.2 j hj)
    simpa using h2
   rw [List.length_append,List.length_singleton] at hl1
   have hz0:rcD 0=[natW 0,.bool false,natW 0]:=rfl
   rw [o_wt,o_wt,hN] at hc
   rw [o_wt] at ho
   rw [hz0] at hc ho
   refine A10 (fs hi (fs hn (fs hK hV))) ?_;try with_reducible exact tt
   refine CallS.pu (ho) (R1 (fs hi (fs hn (fs hK hV))) ?_);try with_reducible exact tt
   refine CallS.pu (hc) (R0 ?_);try with_reducible exact tt
   by_cases hq0:q=0
   ·have hc0:cmpQ q 0=0:=Classical.byContradiction fun h=>(o_yf q).1 h hq0
    refine A10 hc0 ?_;try with_reducible exact tt
    have e':metQ l (σ++[i])=M:=by rw [hms];simp [hq0]
    refine ⟨σ++[i],2,2,⟨by omega,by omega,by omega,by omega⟩,hR,by simp;omega,?_,?_⟩
    ·simp [slM,hpM,e',m0,spO,swT,swH,sw,Ob.sw,V.ren,V.rens]
    ·simp [slM,hpM,e',m0,spO,swT,swH,sw,Ob.sw,V.ren,V.rens]
   ·have hc0:¬cmpQ q 0=0:=(o_yf q).2 hq0
    refine A10 (fs hc0 hMl) ?_;try with_reducible exact tt
    have e':metQ l (σ++[i])=M++[((s1,s2,s3),q)]:=by rw [hms];simp [hq0]
    have e2:rowA atomC (M++[((s1,s2,s3),q)])=rowA atomC M++[.d (.int .i64 s1),.d (.int .i64 s2),.d (.bool s3),.d N1,.d N2,.d N3]:=by rw [o_xi];simp [rowA,atomC,stD,hN]
    refine ⟨σ++[i],2,6,⟨by omega,by omega,by omega,by omega⟩,hR,by simp;omega,?_,?_⟩
    ·simp [slM,hpM,e',spO,swT,swH,sw,Ob.sw,V.ren,V.rens]
    ·simp [slM,hpM,e',spO,swT,swH,sw,Ob.sw,V.ren,V.rens,←e2]
  ·have hp:=o_xw l σ (allp hall)
   rw [←hM] at hp
   have hMl2:M.length=(atQ l).length:=by rw [hp.length_eq,(o_w4 l).length_eq]
   have hso:=o_yd M (by unfold Uq;exact (hp.map _).nodup_iff.2 (o_w6 hu)) hmp (by rw [hp.length_eq];omega) (atQ l) (o_xx l M hu hp)
   have hal:(spD rcD (atQ l)).length=(atQ l).length*6:=o_vm rcD (fun _=>rfl) _
   have htk:(spD rcD (atQ l)).take ((atQ l).length*6)=spD rcD (atQ l):=List.take_of_length_le (by omega)
   rw [hMl2] at hso ⊢
   refine A00 ?_;try with_reducible exact tt
   refine CallS.g [2] hso ?_
   simp
   refine AW.freeze 2 6 ⟨75,rowA atomC (atQ l)⟩ (spD rcD (atQ l)) (by simp) rfl ?_
   simp [frzH,htk]
   refine A10 htk ?_;try with_reducible exact tt
theorem o_yh (l:Sp) (hu:Uq l) (h0:nzQ l≠[]) (h12:(nzQ l).length≤40) (hl:l.length≤1000000) (hr:∀p∈l,RS p.2 100000):Eqn Tryz.prog o_8f [.mp 0] [spO l] (.d (.sl (atQ l).length (spD rcD (atQ l)))) [spO l]:=o_yg l hu h0 hl hr
end
section
open Go.RowKit
def Gr (D B:Nat) (q:Rat):Prop:=∃z:Nat,q*(D:Rat)=(z:Rat)∧z≤B*D
theorem o_yi {D:Nat} (h:0<D):(D:Rat)≠0:=by
 intro e
 have:D=0:=by exact_mod_cast e
 omega
theorem Gr.rs {D B N:Nat} {q:Rat} (hD:0<D) (hB:1≤B) (h:Gr D B q) (hN:size (B*D)≤N):RS q N:=by
 obtain ⟨z,h1,h2⟩:=h
 have hd:=o_yi hD
 have e:q=mkRat (z:Int) D:=by
  rw [Rat.mkRat_eq_div]
  have:((z:Int):Rat)=(z:Rat):=rfl
  rw [this,←h1]
  rw [Rat.mul_div_cancel hd]
 rw [e]
 refine RS.mk' hD ?_ ?_
 ·exact Nat.le_trans (o_l1 (by simpa using h2)) hN
 ·exact Nat.le_trans (o_l1 (by exact Nat.le_mul_of_pos_left D hB)) hN
theorem Gr.zero (D B:Nat):Gr D B 0:=⟨0,by grind,Nat.zero_le _⟩
theorem Gr.add {D B C:Nat} {x y:Rat} (hx:Gr D B x) (hy:Gr D C y):Gr D (B+C) (x+y):=by
 obtain ⟨z,h1,h2⟩:=hx
 obtain ⟨w,h3,h4⟩:=hy
 refine ⟨z+w,?_,by rw [Nat.add_mul];omega⟩
 have:((z+w:Nat):Rat)=(z:Rat)+(w:Rat):=by simp
 rw [this,←h1,←h3];grind
theorem Gr.mul {D E B C:Nat} {x y:Rat} (hx:Gr D B x) (hy:Gr E C y):Gr (D*E) (B*C) (x*y):=by
 obtain ⟨z,h1,h2⟩:=hx
 obtain ⟨w,h3,h4⟩:=hy
 refine ⟨z*w,?_,?_⟩
 ·have e1:((z*w:Nat):Rat)=(z:Rat)*(w:Rat):=by simp
  have e2:((D*E:Nat):Rat)=(D:Rat)*(E:Rat):=by simp
  rw [e1,e2,←h1,←h3];grind
 ·have:=Nat.mul_le_mul h2 h4
  refine Nat.le_trans this (Nat.le_of_eq ?_)
  rw [Nat.mul_mul_mul_comm]
theorem Gr.le {D B C:Nat} {x:Rat} (h:Gr D B x) (hbc:B≤C):Gr D C x:=by
 obtain ⟨z,h1,h2⟩:=h
 exact ⟨z,h1,Nat.le_trans h2 (Nat.mul_le_mul_right _ hbc)⟩
theorem Gr.one (D:Nat):Gr D 1 1:=⟨D,by grind,by omega⟩
theorem Gr.sub1 {D:Nat} {x:Rat} (h:Gr D 1 x):Gr D 1 (1-x):=by
 obtain ⟨z,h1,h2⟩:=h
 refine ⟨D-z,?_,by omega⟩
 have e1:((D-z:Nat):Rat)=(D:Rat)-(z:Rat):=by
  have:(D:Rat)=((D-z+z:Nat):Rat):=by rw [Nat.sub_add_cancel (by omega)]
  rw [this]
  have e:((D-z+z:Nat):Rat)=((D-z:Nat):Rat)+(z:Rat):=by simp
  rw [e];grind
 rw [e1,←h1];grind
theorem o_yj {k a w:Nat} (h:GoodS k a w):∃G:Nat,0<G∧G≤2^63∧∀x,x≤15→Gr G 1 (chP k a x):=by
 by_cases hk:k=1
 ·subst hk
  have ha:1≤a∧a≤4:=by
   rcases h.1 with ⟨-,h1,h2⟩ | ⟨h1,-⟩ | ⟨h1,-⟩
   ·exact ⟨h1,h2⟩
   ·omega
   ·omega
  refine ⟨(a+1)^15,Nat.pow_pos (by omega),Nat.le_trans (Nat.pow_le_pow_left (show a+1≤5 by omega) 15) (by decide),fun x hx=>?_⟩
  rw [chP,if_pos rfl]
  unfold chM
  have key:∀n,n≤15→∃z:Nat,mkRat (a:Int) (a+1)^n*(((a+1)^n:Nat):Rat)=(z:Rat)∧z≤(a+1)^n:=by
   intro n
   induction n with
   | zero=>intro _;exact ⟨1,by simp,by simp⟩
   | succ n ih =>
    intro hn
    obtain ⟨z,h1,h2⟩:=ih (by omega)
    refine ⟨z*a,?_,by rw [Nat.pow_succ];exact Nat.mul_le_mul h2 (by omega)⟩
    have e1:mkRat (a:Int) (a+1)*((a+1:Nat):Rat)=(a:Rat):=by
     rw [Rat.mkRat_eq_div]
     have:((a:Int):Rat)=(a:Rat):=rfl
     rw [this]
     exact Rat.div_mul_cancel (o_yi (by omega))
    have e2:(((a+1)^(n+1):Nat):Rat)=(((a+1)^n:Nat):Rat)*((a+1:Nat):Rat):=by rw [Nat.pow_succ];simp
    have e3:((z*a:Nat):Rat)=(z:Rat)*(a:Rat):=by simp
    rw [Rat.pow_succ,e2,e3,←h1,←e1];grind
  obtain ⟨z,h1,h2⟩:=key x hx
  refine ⟨z*(a+1)^(15-x),?_,?_⟩
  ·have e1:(((a+1)^15:Nat):Rat)=(((a+1)^x:Nat):Rat)*(((a+1)^(15-x):Nat):Rat):=by
    have:(a+1)^15=(a+1)^x*(a+1)^(15-x):=by rw [←Nat.pow_add];congr 1;omega
    rw [this];simp
   have e2:((z*(a+1)^(15-x):Nat):Rat)=(z:Rat)*(((a+1)^(15-x):Nat):Rat):=by simp
   rw [e1,e2,←h1];grind
  ·rw [Nat.one_mul,show (a+1)^15=(a+1)^x*(a+1)^(15-x) by rw [←Nat.pow_add];congr 1;omega]
   exact Nat.mul_le_mul_right _ h2
 ·refine ⟨2^63,by decide,Nat.le_refl _,fun x hx=>?_⟩
  rw [chP,if_neg hk]
  have he:=o_re h hk hx
  generalize expOf k a x=e at *
  refine ⟨2^(63-e),?_,by rw [Nat.one_mul];exact Nat.pow_le_pow_right (by decide) (by omega)⟩
  have e1:mkRat 1 (2^e)*((2^e:Nat):Rat)=1:=by
   rw [Rat.mkRat_eq_div]
   have:=Rat.div_mul_cancel (a:=((1:Int):Rat)) (o_yi (Nat.two_pow_pos e))
   simpa using this
  have e2:((2^63:Nat):Rat)=((2^e:Nat):Rat)*((2^(63-e):Nat):Rat):=by
   have:2^63=2^e*2^(63-e):=by rw [←Nat.pow_add];congr 1;omega
   rw [this];simp
  rw [e2,←Rat.mul_assoc,e1];grind
end
section
open Go.RowKit
theorem o_yk (q:Rat) (out K:Sp) (j:Nat) (h:j<K.length):innQ q out (K.take (j+1))=addQ (innQ q out (K.take j)) K[j].1 (q*K[j].2):=by
 unfold innQ;rw [List.take_add_one,List.getElem?_eq_getElem h,Option.toList,List.foldl_append];rfl
def outQ (next:St→Sp) (A:Sp) (i:Nat):Sp:=(A.take i).foldl (fun out a=>innQ a.2 out (atQ (next a.1))) []
theorem o_yl (next:St→Sp) (A:Sp) (i:Nat) (h:i<A.length):outQ next A (i+1)=innQ A[i].2 (outQ next A i) (atQ (next A[i].1)):=by
 unfold outQ;rw [List.take_add_one,List.getElem?_eq_getElem h,Option.toList,List.foldl_append];rfl
theorem o_ym (next:St→Sp) (l:Sp):outQ next (atQ l) (atQ l).length=timesQ next l:=by unfold outQ timesQ;rw [List.take_length]
theorem o_yn {D B:Nat} {l:Sp} (h:∀p∈l,Gr D B p.2) (s:St):Gr D B (getQ l s):=by
 induction l with
 | nil=>exact Gr.zero D B
 | cons p l ih =>
  unfold getQ
  split
  ·exact h p (by simp)
  ·exact ih fun q hq=>h q (by simp [hq])
theorem o_yo {D B:Nat} {q:Rat} {out:Sp} {C:Nat} (ho:∀p∈out,Gr D C p.2):∀(K:Sp),(∀p∈K,Gr D B (q*p.2))→∀p∈innQ q out K,Gr D (C+K.length*B) p.2:=by
 have key:∀(K out:Sp) (C:Nat),(∀p∈out,Gr D C p.2)→(∀p∈K,Gr D B (q*p.2))→∀p∈innQ q out K,Gr D (C+K.length*B) p.2:=by
  intro K
  induction K with
  | nil=>intro out C ho _ p hp;simpa [innQ] using ho p hp
  | cons b K ih =>
   intro out C ho hK p hp
   have h1:∀p∈addQ out b.1 (q*b.2),Gr D (C+B) p.2:=by
    intro p hp
    rcases o_wi hp with hp | rfl
    ·exact (ho p hp).le (by omega)
    ·exact (o_yn ho _).add (hK b (by simp))
   have:=ih (addQ out b.1 (q*b.2)) (C+B) h1 (fun p hp=>hK p (by simp [hp])) p hp
   refine this.le (Nat.le_of_eq ?_)
   rw [List.length_cons,Nat.add_mul,Nat.one_mul];omega
 exact fun K=>key K out C ho
theorem o_yp {D E B J:Nat} {next:St→Sp} {A:Sp} (hA:∀p∈A,Gr D B p.2) (hN:∀p∈A,(∀r∈next p.1,Gr E 1 r.2)∧(atQ (next p.1)).length≤J):∀i,i≤A.length→∀p∈outQ next A i,Gr (D*E) (i*J*B) p.2
 | 0,_=>fun p hp=>by simp [outQ] at hp
 | i+1,hi=>by
  have hi':i<A.length:=hi
  have ih:=o_yp hA hN i (by omega)
  rw [o_yl next A i hi']
  obtain ⟨h1,h2⟩:=hN A[i] (List.getElem_mem hi')
  have hm:∀p∈atQ (next A[i].1),Gr (D*E) B (A[i].2*p.2):=fun p hp=>by
   have:=(hA A[i] (List.getElem_mem hi')).mul (h1 p (List.mem_filter.1 ((o_w4 _).mem_iff.1 hp)).1)
   rwa [Nat.mul_one] at this
  intro p hp
  refine (o_yo ih _ hm p hp).le ?_
  have:=Nat.mul_le_mul_right B h2
  rw [Nat.add_mul i 1 J,Nat.one_mul,Nat.add_mul];omega
theorem o_yq {top:Nat} {c:Nat→Rat} (s:St):nzQ (stepQ top c s)≠[]:=by
 intro h
 have h1:=(o_wg (fun _=>1) top c s).2
 have h2:exQ (fun _=>(1:Rat)) (stepQ top c s)=1:=by
  rw [h1];split
  ·rfl
  ·grind
 have h3:=o_vy (fun _=>(1:Rat)) (stepQ top c s)
 rw [show (stepQ top c s).filter (fun p=>decide (p.2≠0))=nzQ (stepQ top c s) from rfl,h] at h3
 rw [h2] at h3
 exact absurd h3 (by decide)
theorem o_yr (l:Sp) (s:St) (q:Rat):(setQ l s q).length≤l.length+1:=by
 induction l with
 | nil=>simp [setQ]
 | cons p l ih=>unfold setQ;split<;>simp<;>omega
theorem o_ys (top:Nat) (c:Nat→Rat) (s:St):(stepQ top c s).length≤2:=by
 unfold stepQ
 split
 ·simp
 ·unfold eitQ addQ
  have:=o_yr (setQ [] (s.1+1,s.2) (getQ [] (s.1+1,s.2)+c s.1)) s (getQ (setQ [] (s.1+1,s.2) (getQ [] (s.1+1,s.2)+c s.1)) s+(1-c s.1))
  have h2:=o_yr [] (s.1+1,s.2) (getQ [] (s.1+1,s.2)+c s.1)
  simp at h2
  omega
theorem o_yt (l:Sp):(atQ l).length≤l.length:=by
 rw [(o_w4 l).length_eq];exact List.length_filter_le _ _
theorem o_yu {G top:Nat} {c:Nat→Rat} (hc:∀x,x<top→Gr G 1 (c x)) (s:St) (hs:s.1≤top):∀p∈stepQ top c s,Gr G 1 p.2:=by
 unfold stepQ
 split
 ·intro p hp;simp at hp;subst hp;exact Gr.one G
 ·rename_i e
  have h1:=hc s.1 (by omega)
  have hne:¬s=(s.1+1,s.2):=fun h=>by have:=congrArg Prod.fst h;simp at this
  intro p hp
  unfold eitQ at hp
  rcases o_wi hp with hp | rfl
  ·rcases o_wi hp with hp | rfl
   ·cases hp
   ·have:=(Gr.zero G 0).add h1
    simpa [getQ] using this
  ·have h2:getQ (addQ [] (s.1+1,s.2) (c s.1)) s=0:=by unfold addQ;rw [o_vo,if_neg hne];rfl
   show Gr G 1 (getQ (addQ [] (s.1+1,s.2) (c s.1)) s+(1-c s.1))
   rw [h2]
   have:=(Gr.zero G 0).add h1.sub1
   simpa using this
end
section
open Go.RowKit
def PO (k a w:Nat):Ob:=⟨62,[.d (.int .i64 k),.d (.int .i64 a),.d (.int .i64 w)]⟩
theorem o_yv (A:Sp) (i:Nat) (hi:i<A.length):∃(s1 s2:Nat) (s3:Bool) (q:Rat) (N1 N2 N3:D),A[i]=((s1,s2,s3),q)∧rcD q=[N1,N2,N3]∧((spD rcD A).drop (i*6)).take 6=[.int .i64 s1,.int .i64 s2,.bool s3,N1,N2,N3]:=by
 obtain ⟨⟨⟨s1,s2,s3⟩,q⟩,hp⟩:∃p,A[i]=p:=⟨_,rfl⟩
 have h6:=o_pu (n:=6) (f:=atomC) o_xn A i hi
 rw [hp,←o_xo] at h6
 exact ⟨s1,s2,s3,q,_,_,_,hp,rfl,by rw [h6];rfl⟩
set_option maxHeartbeats 4000000 in
theorem o_yw {k a w:Nat} (h:GoodS k a w) (l:Sp) (G D B:Nat) (hu:Uq l) (hok:oklQ (topC w) l) (hnz:nzQ l≠[]) (h12:(nzQ l).length≤40) (hl:l.length≤1000000) (hD:0<D) (hB:1≤B) (hgl:∀p∈l,Gr D B p.2) (hG:0<G) (hc:∀x,x≤15→Gr G 1 (chP k a x)) (hsz:size (80*B*(D*G))≤100000) :
  Eqn Tryz.prog o_8r [.mp 0,.fn (.func o_8u) [.p 1 0]] [spO l,PO k a w] (.mp 2) [spO l,PO k a w,spO (timesQ (stepQ (topC w) (chP k a)) l)]:=by
 refine Eqn.gen [0,1,2] o_8t (by simp) (by simp) (by rfl) (by decide) (by simp) (by simp [spO,PO]) ?_
 have h15:topC w≤15:=by have:=Nat.pow_le_pow_right (n:=2) (by omega) h.2.2;unfold topC;omega
 obtain ⟨next,hnext⟩:∃f,f=stepQ (topC w) (chP k a):=⟨_,rfl⟩
 obtain ⟨A,hA⟩:∃A,A=atQ l:=⟨_,rfl⟩
 have hAl:A.length≤40:=by rw [hA,(o_w4 l).length_eq];exact h12
 have hA0:1≤A.length:=by
  rw [hA,(o_w4 l).length_eq]
  rcases Nat.eq_zero_or_pos (nzQ l).length with e | e
  ·exact absurd (List.eq_nil_of_length_eq_zero e) hnz
  ·exact e
 have hAm:∀p∈A,p∈l:=fun p hp=>(List.mem_filter.1 ((o_w4 l).mem_iff.1 (hA▸hp))).1
 have hDG:0<D*G:=Nat.mul_pos hD hG
 have hBD:size (B*D)≤100000:=by
  refine Nat.le_trans (o_l1 ?_) hsz
  calc B*D=B*D*1:=(Nat.mul_one _).symm
   _≤B*D*(80*G):=Nat.mul_le_mul_left _ (by omega)
   _=80*B*(D*G):=by simp [Nat.mul_comm,Nat.mul_left_comm,Nat.mul_assoc]
 have hat:=o_yh l hu hnz h12 hl (fun p hp=>(hgl p hp).rs hD hB hBD)
 have hGs:size (1*G)≤100000:=by
  refine Nat.le_trans (o_l1 ?_) hsz
  calc 1*G≤(80*B*D)*G:=Nat.mul_le_mul_right _ (Nat.mul_pos (by omega) hD)
   _=80*B*(D*G):=by rw [Nat.mul_assoc]
 have hgn:∀s:St,s.1≤topC w→∀p∈next s,Gr G 1 p.2:=fun s hs=>by rw [hnext];exact o_yu (fun x hx=>hc x (by omega)) s hs
 have hnl:∀s,(atQ (next s)).length≤2:=fun s=>Nat.le_trans (o_yt _) (by rw [hnext];exact o_ys _ _ _)
 have hout:=o_yp (D:=D) (E:=G) (B:=B) (J:=2) (next:=next) (A:=A) (fun p hp=>hgl p (hAm p hp)) (fun p hp=>⟨hgn p.1 (hok p (hAm p hp)).1.1,hnl p.1⟩)
 have hon:=o_yl next A
 have hoa:outQ next A A.length=timesQ next l:=by rw [hA];exact o_ym next l
 have hADl:=o_vm rcD (fun _=>rfl) A
 have hget:=o_yv A
 rw [←hnext,←hoa]
 rw [←hA] at hat
 have hcl:∀s:St,s.1≤topC w→Eqn Tryz.prog o_8u [.d (.agg (stD s)),.p 0 0] [PO k a w] (.mp 1) [PO k a w,spO (next s)]∧Eqn Tryz.prog o_8f [.mp 0] [spO (next s)] (.d (.sl (atQ (next s)).length (spD rcD (atQ (next s))))) [spO (next s)]:=fun s hs=>by
  refine ⟨by rw [hnext];exact o_xm h s hs,o_yh _ (by rw [hnext];exact (o_wg (fun _=>0) _ _ s).1) (by rw [hnext];exact o_yq s) ?_ ?_ fun p hp=>(hgn s hs p hp).rs hG (Nat.le_refl _) hGs⟩
  ·exact Nat.le_trans (List.length_filter_le _ _) (Nat.le_trans (by rw [hnext];exact o_ys _ _ _) (by omega))
  ·exact Nat.le_trans (by rw [hnext];exact o_ys _ _ _) (by omega)
 have hAok:∀p∈A,p.1.1≤topC w:=fun p hp=>(hok p (hAm p hp)).1.1
 clear hnext hA hoa hnz
 refine cc (c':=?z255) ?_ ?_
 case refine_1=>cbv<;>exact rfl
 try simp only [spO,PO] at hat hcl ⊢
 generalize hLl:spD rcD l=LL at *
 refine A00 ?_;try with_reducible exact tt
 refine CallS.g [0] (hat) (R0 ?_);try with_reducible exact tt
 refine AW.loopG (α:=Nat) (fun i=>setS (List.replicate 40 .junk) [(1,.fn (.func o_8u) [.p 1 0]),(5,.mp 2),(12,.d (.sl A.length (spD rcD A))),(13,.d (.int .i64 A.length)),(14,.d (.int .i64 (i:Nat)))]) (fun i=>[some ⟨1000391,LL.map .d⟩,some ⟨62,[.d (.int .i64 k),.d (.int .i64 a),.d (.int .i64 w)]⟩,some ⟨1000391,(spD rcD (outQ next A i)).map .d⟩]) (fun i=>i≤A.length) (fun i=>A.length-i) 0 ?_ (Nat.zero_le _) ?_ ?_ ?_
 ·intro i hi;simp
 ·simp
 ·simp [outQ,spD]
 rintro i hi
 simp
 by_cases hi2:i<A.length
 ·have hi3:(i:Int)<A.length:=by omega
  obtain ⟨s1,s2,s3,q,N1,N2,N3,hp,hN,hg⟩:=hget i hi2
  have hsk:=hAok _ (List.getElem_mem hi2)
  rw [hp] at hsk
  obtain ⟨hof,han⟩:=hcl (s1,s2,s3) hsk
  have hgq:Gr D B q:=by have:=hgl _ (hAm _ (List.getElem_mem hi2));rw [hp] at this;exact this
  have hon1:=hon i hi2
  rw [hp] at hon1
  simp only at hon1
  have hgo:=hout i hi
  have hn2:=hnl (s1,s2,s3)
  have hgn2:=hgn (s1,s2,s3) hsk
  obtain ⟨C,hC⟩:∃C,C=atQ (next (s1,s2,s3)):=⟨_,rfl⟩
  have hCm:∀p∈C,Gr G 1 p.2:=fun p hp=>hgn2 p (List.mem_filter.1 ((o_w4 _).mem_iff.1 (hC▸hp))).1
  rw [←hC] at hon1 han hn2
  have hCl:=o_vm rcD (fun _=>rfl) C
  have hgetC:=o_yv C
  have ewi:IntKind.i64.wrap ((i:Int)+1)=((i+1:Nat):Int):=by rw [w64 (by omega) (by omega)];omega
  simp only [stD] at hof han
  generalize hNL:spD rcD (next (s1,s2,s3))=NL at *
  have hb6:i*6+6≤A.length*6:=by omega
  have hb7:i*6<A.length*6:=by omega
  refine A10 (fs hi2 (fs hi3 (fs hg (fs hADl (fs hb6 hb7))))) ?_;try with_reducible exact tt
  refine CallS.g [1] (hof) (R0 ?_);try with_reducible exact tt
  refine CallS.g [4] (han) (R0 ?_);try with_reducible exact tt
  refine AW.loopG (α:=Nat) (fun j=>setS (List.replicate 40 .junk) [(1,.fn (.func o_8u) [.p 1 0]),(5,.mp 2),(7,.p 3 0),(12,.d (.sl A.length (spD rcD A))),(13,.d (.int .i64 A.length)),(14,.d (.int .i64 (i:Nat))),(22,.d (.sl C.length (spD rcD C))),(23,.d (.int .i64 C.length)),(24,.d (.int .i64 (j:Nat)))]) (fun j=>[some ⟨1000391,LL.map .d⟩,some ⟨62,[.d (.int .i64 k),.d (.int .i64 a),.d (.int .i64 w)]⟩,some ⟨1000391,(spD rcD (innQ q (outQ next A i) (C.take j))).map .d⟩,some ⟨75,[.d (.int .i64 s1),.d (.int .i64 s2),.d (.bool s3),.d N1,.d N2,.d N3]⟩]) (fun j=>j≤C.length) (fun j=>C.length-j) 0 ?_ (Nat.zero_le _) ?_ ?_ ?_
  ·intro j hj;simp
  ·simp
  ·simp [innQ]
  rintro j hj
  simp
  by_cases hj2:j<C.length
  ·have hj3:(j:Int)<C.length:=by omega
   obtain ⟨t1,t2,t3,r,M1,M2,M3,hpc,hM,hgc⟩:=hgetC j hj2
   have hinn:=o_yk q (outQ next A i) C j hj2
   have hgr:=hCm _ (List.getElem_mem hj2)
   rw [hpc] at hinn hgr
   simp only at hinn hgr
   have hqr:=hgq.mul hgr
   have hgi:=o_yo (q:=q) (B:=B) hgo (C.take j) (fun p hp=>by
    have:=hgq.mul (hCm p (List.mem_of_mem_take hp))
    rwa [Nat.mul_one] at this)
   have hget2:=(o_yn hgi (t1,t2,t3)).le (C:=80*B) (by
    have e1:(C.take j).length≤2:=by rw [List.length_take];omega
    have e2:=Nat.mul_le_mul_right B e1
    have e3:i*2*B≤78*B:=Nat.mul_le_mul_right _ (by omega)
    omega)
   have hq1:=hgq.rs hD hB hBD
   have hr1:=hgr.rs hG (Nat.le_refl _) hGs
   have hmul:=o_p0 q r hq1 hr1
   have hadd:=o_ww (innQ q (outQ next A i) (C.take j)) (t1,t2,t3) (q*r) (hget2.rs hDG (by omega) hsz) ((hqr.le (C:=80*B) (by omega)).rs hDG (by omega) hsz)
   have ewj:IntKind.i64.wrap ((j:Int)+1)=((j+1:Nat):Int):=by rw [w64 (by omega) (by omega)];omega
   have hc6:j*6+6≤C.length*6:=by omega
   have hc7:j*6<C.length*6:=by omega
   rw [←hinn] at hadd
   rw [o_wt q,o_wt r,o_wt (q*r),hN,hM] at hmul
   rw [o_wt (q*r)] at hadd
   obtain ⟨P1,P2,P3,hP⟩:∃P1 P2 P3,rcD (q*r)=[P1,P2,P3]:=⟨_,_,_,rfl⟩
   rw [hP] at hmul hadd
   simp only [spO,stD] at hadd
   refine A10 (fs hj2 (fs hj3 (fs hgc (fs hCl (fs hc6 hc7))))) ?_;try with_reducible exact tt
   refine CallS.pu (hmul) (R0 ?_);try with_reducible exact tt
   refine CallS.g [2] (hadd) (R0 ?_);try with_reducible exact tt
   refine A10 ewj ?_;try with_reducible exact tt
   refine ⟨j+1,2,2,⟨by omega,by omega,by omega,by omega⟩,by omega,by omega,?_,?_⟩
   ·simp [swT,swH,sw,Ob.sw,V.ren,V.rens]
   ·simp [swT,swH,sw,Ob.sw,V.ren,V.rens]
  ·have h2:j=C.length:=by omega
   subst h2
   rw [List.take_length,←hon1]
   refine A00 ?_;try with_reducible exact tt
   refine A10 ewi ?_;try with_reducible exact tt
   refine ⟨i+1,2,2,⟨by omega,by omega,by omega,by omega⟩,by omega,by omega,?_,?_⟩
   ·simp [swT,swH,sw,Ob.sw,V.ren,V.rens]
   ·simp [swT,swH,sw,Ob.sw,V.ren,V.rens]
 ·have h2:i=A.length:=by omega
  subst h2
  refine A00 ?_;try with_reducible exact tt
end
section
open Go.RowKit
theorem o_yx {k a w:Nat} (h:GoodR k a w) (s:St) (hw:WellR k a w s.1 s.2.1 s.2.2):Eqn Tryz.prog o_cg [.d (.agg (stD s)),.p 0 0] [PO k a w] (.d (.bool false)) [PO k a w]:=by
 refine Eqn.gen [0] o_ci (by simp) (by simp) (by rfl) (by decide) (by simp) (by simp [PO]) ?_
 have hwl:=o_s6 h s.1 s.2.1 s.2.2
 rw [o_s5.2 hw] at hwl
 refine cc (c':=?z256) ?_ ?_
 case refine_1=>cbv<;>exact rfl
 try simp only [PO,stD,parD,tsD] at hwl ⊢
 refine A00 ?_;try with_reducible exact tt
 refine CallS.pu (hwl) (R0 ?_);try with_reducible exact tt
theorem o_yy {k a w:Nat} (h:GoodR k a w) (s:St) (hw:WellR k a w s.1 s.2.1 s.2.2):Eqn Tryz.prog o_es [.d (.sl 1 (stD s)),.fn (.func o_cg) [.p 0 0]] [PO k a w] (.d (.int .i64 (-1))) [PO k a w]:=by
 refine Eqn.gen [0] o_eu (by simp) (by simp) (by rfl) (by decide) (by simp) (by simp [PO]) ?_
 have hw1:=o_yx h s hw
 refine cc (c':=?z257) ?_ ?_
 case refine_1=>cbv<;>exact rfl
 try simp only [PO,stD] at hw1 ⊢
 refine A00 ?_;try with_reducible exact tt
 refine AW.rounds 2 ?_
 refine A00 ?_;try with_reducible exact tt
 refine CallS.g [0] (hw1) (R0 ?_);try with_reducible exact tt
 refine A00 ?_;try with_reducible exact tt
theorem o_yz {k a w:Nat} (h:GoodR k a w) (s:St) (hw:WellR k a w s.1 s.2.1 s.2.2):Eqn Tryz.prog o_cd [.d (.sl 1 (stD s)),.fn (.func o_cg) [.p 0 0]] [PO k a w] (.d (.bool false)) [PO k a w]:=by
 refine Eqn.gen [0] o_cf (by simp) (by simp) (by rfl) (by decide) (by simp) (by simp [PO]) ?_
 have hi:=o_yy h s hw
 refine cc (c':=?z258) ?_ ?_
 case refine_1=>cbv<;>exact rfl
 try simp only [PO,stD] at hi ⊢
 refine A00 ?_;try with_reducible exact tt
 refine CallS.g [0] (hi) (R0 ?_);try with_reducible exact tt
theorem o_z0 {k a w:Nat} (h:GoodR k a w) (s:St) (hw:WellR k a w s.1 s.2.1 s.2.2):Eqn Tryz.prog o_8i [.d (parD k a w),.d (.sl 1 (stD s))] [] (.d (.int .i64 0)) []:=by
 refine Eqn.pure o_8k Plain.ok ?_
 have hc:=o_s4 h
 have hi:=o_yz h s hw
 refine cc (c':=?z259) ?_ ?_
 case refine_1=>cbv<;>exact rfl
 try simp only [PO,stD,parD] at hc hi ⊢
 refine A00 ?_;try with_reducible exact tt
 refine CallS.pu (hc) (R0 ?_);try with_reducible exact tt
 refine A00 ?_;try with_reducible exact tt
 refine CallS.g [0] (hi) (R0 ?_);try with_reducible exact tt
 refine A00 ?_;try with_reducible exact tt
theorem o_z1 {k a w:Nat} (hk:k≠4) (hw:w≤10):Eqn Tryz.prog o_8l [.d (parD k a w)] [] (.d (.int .i64 (2^w:Nat))) []:=by
 refine Eqn.pure o_8n Plain.ok ?_
 have hk':¬(k:Int)=4:=by omega
 have e0:(2:Int)^w=(2^w:Nat):=by rw [Int.natCast_pow];rfl
 have h2:2^w≤1024:=Nat.pow_le_pow_right (n:=2) (by omega) hw
 refine cc (c':=?z260) ?_ ?_
 case refine_1=>cbv<;>exact rfl
 try simp only [parD]
 generalize 2^w=S at *
 have e1:IntKind.i64.wrap (S:Int)=S:=w64 (by omega) (by omega)
 refine A10 (fs hk (fs hk' (fs e0 e1))) ?_;try with_reducible exact tt
end
section
open Go.RowKit
def kyQ (P:St→Prop) (l:Sp):Prop:=∀p∈l,P p.1
theorem o_z2 {P:St→Prop} {q:Rat}:∀{l out:Sp},kyQ P out→kyQ P l→kyQ P (innQ q out l)
 | [],out,h,_=>h
 | b::l,out,h,hl=>o_z2 (out:=addQ out b.1 (q*b.2)) (l:=l) (fun p hp=>by
   rcases o_wi hp with hp | rfl
   ·exact h p hp
   ·exact hl b (by simp)) fun p hp=>hl p (by simp [hp])
theorem o_z3 {P:St→Prop} {l:Sp} (h:kyQ P l):kyQ P (atQ l):=fun p hp=>h p (List.mem_filter.1 ((o_w4 l).mem_iff.1 hp)).1
theorem o_z4 {P P':St→Prop} {next:St→Sp} (hn:∀s,P s→kyQ P' (next s)) {l:Sp} (h:kyQ P l):kyQ P' (timesQ next l):=by
 have key:∀(k out:Sp),kyQ P' out→kyQ P k→kyQ P' (k.foldl (fun out a=>innQ a.2 out (atQ (next a.1))) out):=by
  intro k
  induction k with
  | nil=>intro out h _;exact h
  | cons a k ih =>
   intro out ho hk
   exact ih _ (o_z2 ho (o_z3 (hn _ (hk a (by simp))))) fun p hp=>hk p (by simp [hp])
 exact key _ _ (fun p hp=>by cases hp) (o_z3 h)
def reach (top k:Nat) (i:Nat) (t:St):Prop:=t=(top,0,true)∨t.2=(0,false)∧k≤t.1∧t.1≤k+i∧t.1≤top
theorem o_z5 {top k i:Nat} {c:Nat→Rat} {t:St} (h:reach top k i t):kyQ (reach top k (i+1)) (stepQ top c t):=by
 obtain ⟨a,b,f⟩:=t
 unfold stepQ
 split
 ·rename_i e
  intro p hp
  simp at hp;subst hp
  left
  rcases h with h | ⟨h,-⟩
  ·have h1:=congrArg (fun x:St=>x.2.1) h
   simp only at e h1
   rw [e,h1]
  ·simp only [Prod.mk.injEq] at h
   simp only at e
   rw [e,h.1]
 ·rename_i e
  simp only at e
  rcases h with h | ⟨h,h1,h2,h3⟩
  ·exact absurd (congrArg (fun x:St=>x.1) h) e
  ·simp only at h h1 h2 h3
   intro p hp
   unfold eitQ at hp
   rcases o_wi hp with hp | rfl
   ·rcases o_wi hp with hp | rfl
    ·cases hp
    ·exact .inr ⟨h,by simp only;omega,by simp only;omega,by simp only;omega⟩
   ·exact .inr ⟨h,h1,by simp only;omega,h3⟩
theorem o_z6 {top:Nat} {c:Nat→Rat} {s:St} (hs:okQ top s):∀i,kyQ (reach top s.1 i) (ofQ (stepQ top c) s i)
 | 0=>fun p hp=>by
  simp [ofQ] at hp;subst hp
  obtain ⟨a,b,f⟩:=s
  obtain ⟨h1,h2,h3⟩:=hs
  simp only at h1 h2 h3
  subst h2
  cases f with
  | false=>exact .inr ⟨rfl,Nat.le_refl _,Nat.le_refl _,h1⟩
  | true=>left;rw [h3 rfl]
 | i+1=>o_z4 (fun t ht=>o_z5 ht) (o_z6 hs i)
theorem o_z7 {top k i:Nat} {l:Sp} (hu:Uq l) (h:kyQ (reach top k i) l):l.length≤i+2:=by
 have h1:(l.map (·.1)).length≤((top,0,true)::(List.range (i+1)).map fun j=>(k+j,0,false):List St).length:=by
  refine List.Nodup.length_le_of_subset hu fun t ht=>?_
  obtain ⟨p,hp,rfl⟩:=List.mem_map.1 ht
  rcases h p hp with e | ⟨e,e1,e2,-⟩
  ·rw [e];simp
  ·refine List.mem_cons_of_mem _ (List.mem_map.2 ⟨p.1.1-k,List.mem_range.2 (by omega),?_⟩)
   rw [show k+(p.1.1-k)=p.1.1 by omega,←e]
 simpa using h1
theorem o_z8 {top:Nat} {c:Nat→Rat} (s:St) (n:Nat):nzQ (ofQ (stepQ top c) s n)≠[]:=by
 intro h
 have h2:=o_wq (top:=top) (c:=c) s n
 have h3:=o_vy (fun _=>(1:Rat)) (ofQ (stepQ top c) s n)
 rw [show (ofQ (stepQ top c) s n).filter (fun p=>decide (p.2≠0))=nzQ (ofQ (stepQ top c) s n) from rfl,h] at h3
 rw [h2] at h3
 exact absurd h3 (by decide)
theorem o_z9 (a:Nat) (h:size a≤1):∀n,size (a^n)≤n+1
 | 0=>Nat.le_trans (by decide:size 1≤1) (by omega)
 | n+1=>by
  rw [Nat.pow_succ]
  have:=o_om (a^n) a
  have:=o_z9 a h n
  omega
theorem o_za {G n:Nat} (hG:G≤2^63) (hn:n≤100):size (80*80^n*(G^n*G))≤100000∧size (80^n*G^n)≤100000:=by
 have h1:size G≤1:=o_mr (Nat.lt_of_le_of_lt hG (by decide))
 have h2:size 80≤1:=o_mr (by decide)
 have a1:=o_z9 80 h2 n
 have a2:=o_z9 G h1 n
 have a3:=o_om (80*80^n) (G^n*G)
 have a4:=o_om 80 (80^n)
 have a5:=o_om (G^n) G
 have a6:=o_om (80^n) (G^n)
 omega
theorem o_zb {k a w:Nat} (h:GoodS k a w):(∀x,x<topC w→0≤chP k a x)∧(∀x,x<topC w→chP k a x≤1):=by
 have h15:topC w≤15:=by have:=Nat.pow_le_pow_right (n:=2) (by omega) h.2.2;unfold topC;omega
 obtain ⟨G,hG,-,hc⟩:=o_yj h
 have hp:(0:Rat)<(G:Rat):=by exact_mod_cast hG
 refine ⟨fun x hx=>?_,fun x hx=>?_⟩
 ·obtain ⟨z,h1,h2⟩:=hc x (by omega)
  apply Classical.byContradiction
  intro hn
  have hz:(0:Rat)≤(z:Rat):=by exact_mod_cast Nat.zero_le z
  have:=Rat.mul_lt_mul_of_pos_right (Rat.not_le.1 hn) hp
  grind
 ·obtain ⟨z,h1,h2⟩:=hc x (by omega)
  apply Classical.byContradiction
  intro hn
  have hz:(z:Rat)≤(G:Rat):=by exact_mod_cast (by omega:z≤G)
  have:=Rat.mul_lt_mul_of_pos_right (Rat.not_le.1 hn) hp
  grind
end
section
open Go.RowKit
def dstQ (k a w:Nat) (s:St) (n:Nat):Sp:=ofQ (stepQ (topC w) (chP k a)) s n
end
section
open Go.RowKit
structure NextOK (next:St→Sp) (G:Nat) (s:St):Prop where
 uq:Uq (next s)
 nz:nzQ (next s)≠[]
 len:(next s).length≤2
 gr:∀p∈next s,Gr G 1 p.2
set_option maxHeartbeats 4000000 in
theorem o_zc {f:FuncId} {next:St→Sp} {T1:TypeId} {x0 x1 x2:D} (ho1:T1<1000000) (P:St→Prop) (l:Sp) (G D B:Nat) (hu:Uq l) (hok:∀p∈nzQ l,P p.1) (hnz:nzQ l≠[]) (h12:(nzQ l).length≤40) (hl:l.length≤1000000) (hD:0<D) (hB:1≤B) (hgl:∀p∈l,Gr D B p.2) (hG:0<G) (hf:∀s:St,P s→NextOK next G s∧Eqn Tryz.prog f [.d (.agg (stD s)),.p 0 0] [⟨T1,[.d x0,.d x1,.d x2]⟩] (.mp 1) [⟨T1,[.d x0,.d x1,.d x2]⟩,spO (next s)]) (hsz:size (80*B*(D*G))≤100000) :
  Eqn Tryz.prog o_8r [.mp 0,.fn (.func f) [.p 1 0]] [spO l,⟨T1,[.d x0,.d x1,.d x2]⟩] (.mp 2) [spO l,⟨T1,[.d x0,.d x1,.d x2]⟩,spO (timesQ next l)]:=by
 refine Eqn.gen [0,1,2] o_8t (by simp) (by simp) (by rfl) (by decide) (by simp) (by simp [spO,ho1]) ?_
 obtain ⟨A,hA⟩:∃A,A=atQ l:=⟨_,rfl⟩
 have hAl:A.length≤40:=by rw [hA,(o_w4 l).length_eq];exact h12
 have hA0:1≤A.length:=by
  rw [hA,(o_w4 l).length_eq]
  rcases Nat.eq_zero_or_pos (nzQ l).length with e | e
  ·exact absurd (List.eq_nil_of_length_eq_zero e) hnz
  ·exact e
 have hAm:∀p∈A,p∈l:=fun p hp=>(List.mem_filter.1 ((o_w4 l).mem_iff.1 (hA▸hp))).1
 have hAz:∀p∈A,p∈nzQ l:=fun p hp=>(o_w4 l).mem_iff.1 (hA▸hp)
 have hDG:0<D*G:=Nat.mul_pos hD hG
 have hBD:size (B*D)≤100000:=by
  refine Nat.le_trans (o_l1 ?_) hsz
  calc B*D=B*D*1:=(Nat.mul_one _).symm
   _≤B*D*(80*G):=Nat.mul_le_mul_left _ (by omega)
   _=80*B*(D*G):=by simp [Nat.mul_comm,Nat.mul_left_comm,Nat.mul_assoc]
 have hat:=o_yh l hu hnz h12 hl (fun p hp=>(hgl p hp).rs hD hB hBD)
 have hGs:size (1*G)≤100000:=by
  refine Nat.le_trans (o_l1 ?_) hsz
  calc 1*G≤(80*B*D)*G:=Nat.mul_le_mul_right _ (Nat.mul_pos (by omega) hD)
   _=80*B*(D*G):=by rw [Nat.mul_assoc]
 have hgn:∀s:St,P s→∀p∈next s,Gr G 1 p.2:=fun s hs=>(hf s hs).1.gr
 have hnl:∀s:St,P s→(atQ (next s)).length≤2:=fun s hs=>Nat.le_trans (o_yt _) (hf s hs).1.len
 have hout:=o_yp (D:=D) (E:=G) (B:=B) (J:=2) (next:=next) (A:=A) (fun p hp=>hgl p (hAm p hp)) (fun p hp=>⟨hgn p.1 (hok p (hAz p hp)),hnl p.1 (hok p (hAz p hp))⟩)
 have hon:=o_yl next A
 have hoa:outQ next A A.length=timesQ next l:=by rw [hA];exact o_ym next l
 have hADl:=o_vm rcD (fun _=>rfl) A
 have hget:=o_yv A
 rw [←hoa]
 rw [←hA] at hat
 have hcl:∀s:St,P s→Eqn Tryz.prog f [.d (.agg (stD s)),.p 0 0] [⟨T1,[.d x0,.d x1,.d x2]⟩] (.mp 1) [⟨T1,[.d x0,.d x1,.d x2]⟩,spO (next s)]∧Eqn Tryz.prog o_8f [.mp 0] [spO (next s)] (.d (.sl (atQ (next s)).length (spD rcD (atQ (next s))))) [spO (next s)]:=fun s hs=>by
  obtain ⟨hn,hh⟩:=hf s hs
  refine ⟨hh,o_yh _ hn.uq hn.nz ?_ ?_ fun p hp=>(hgn s hs p hp).rs hG (Nat.le_refl _) hGs⟩
  ·exact Nat.le_trans (List.length_filter_le _ _) (Nat.le_trans hn.len (by omega))
  ·exact Nat.le_trans hn.len (by omega)
 have hAok:∀p∈A,P p.1:=fun p hp=>hok p (hAz p hp)
 clear hA hoa hnz hf
 refine cc (c':=?z262) ?_ ?_
 case refine_1=>cbv<;>exact rfl
 try simp only [spO] at hat hcl ⊢
 generalize hLl:spD rcD l=LL at *
 refine A00 ?_;try with_reducible exact tt
 refine CallS.g [0] (hat) (R0 ?_);try with_reducible exact tt
 refine AW.loopG (α:=Nat) (fun i=>setS (List.replicate 40 .junk) [(1,.fn (.func f) [.p 1 0]),(5,.mp 2),(12,.d (.sl A.length (spD rcD A))),(13,.d (.int .i64 A.length)),(14,.d (.int .i64 (i:Nat)))]) (fun i=>[some ⟨1000391,LL.map .d⟩,some ⟨T1,[.d x0,.d x1,.d x2]⟩,some ⟨1000391,(spD rcD (outQ next A i)).map .d⟩]) (fun i=>i≤A.length) (fun i=>A.length-i) 0 ?_ (Nat.zero_le _) ?_ ?_ ?_
 ·intro i hi;simp
 ·simp
 ·simp [outQ,spD]
 rintro i hi
 simp
 by_cases hi2:i<A.length
 ·have hi3:(i:Int)<A.length:=by omega
  obtain ⟨s1,s2,s3,q,N1,N2,N3,hp,hN,hg⟩:=hget i hi2
  have hsk:=hAok _ (List.getElem_mem hi2)
  rw [hp] at hsk
  obtain ⟨hof,han⟩:=hcl (s1,s2,s3) hsk
  have hgq:Gr D B q:=by have:=hgl _ (hAm _ (List.getElem_mem hi2));rw [hp] at this;exact this
  have hon1:=hon i hi2
  rw [hp] at hon1
  simp only at hon1
  have hgo:=hout i hi
  have hn2:=hnl (s1,s2,s3) hsk
  have hgn2:=hgn (s1,s2,s3) hsk
  obtain ⟨C,hC⟩:∃C,C=atQ (next (s1,s2,s3)):=⟨_,rfl⟩
  have hCm:∀p∈C,Gr G 1 p.2:=fun p hp=>hgn2 p (List.mem_filter.1 ((o_w4 _).mem_iff.1 (hC▸hp))).1
  rw [←hC] at hon1 han hn2
  have hCl:=o_vm rcD (fun _=>rfl) C
  have hgetC:=o_yv C
  have ewi:IntKind.i64.wrap ((i:Int)+1)=((i+1:Nat):Int):=by rw [w64 (by omega) (by omega)];omega
  simp only [stD] at hof han
  generalize hNL:spD rcD (next (s1,s2,s3))=NL at *
  have hb6:i*6+6≤A.length*6:=by omega
  have hb7:i*6<A.length*6:=by omega
  refine A10 (fs hi2 (fs hi3 (fs hg (fs hADl (fs hb6 hb7))))) ?_;try with_reducible exact tt
  refine CallS.g [1] (hof) (R0 ?_);try with_reducible exact tt
  refine CallS.g [4] (han) (R0 ?_);try with_reducible exact tt
  refine AW.loopG (α:=Nat) (fun j=>setS (List.replicate 40 .junk) [(1,.fn (.func f) [.p 1 0]),(5,.mp 2),(7,.p 3 0),(12,.d (.sl A.length (spD rcD A))),(13,.d (.int .i64 A.length)),(14,.d (.int .i64 (i:Nat))),(22,.d (.sl C.length (spD rcD C))),(23,.d (.int .i64 C.length)),(24,.d (.int .i64 (j:Nat)))]) (fun j=>[some ⟨1000391,LL.map .d⟩,some ⟨T1,[.d x0,.d x1,.d x2]⟩,some ⟨1000391,(spD rcD (innQ q (outQ next A i) (C.take j))).map .d⟩,some ⟨75,[.d (.int .i64 s1),.d (.int .i64 s2),.d (.bool s3),.d N1,.d N2,.d N3]⟩]) (fun j=>j≤C.length) (fun j=>C.length-j) 0 ?_ (Nat.zero_le _) ?_ ?_ ?_
  ·intro j hj;simp
  ·simp
  ·simp [innQ]
  rintro j hj
  simp
  by_cases hj2:j<C.length
  ·have hj3:(j:Int)<C.length:=by omega
   obtain ⟨t1,t2,t3,r,M1,M2,M3,hpc,hM,hgc⟩:=hgetC j hj2
   have hinn:=o_yk q (outQ next A i) C j hj2
   have hgr:=hCm _ (List.getElem_mem hj2)
   rw [hpc] at hinn hgr
   simp only at hinn hgr
   have hqr:=hgq.mul hgr
   have hgi:=o_yo (q:=q) (B:=B) hgo (C.take j) (fun p hp=>by
    have:=hgq.mul (hCm p (List.mem_of_mem_take hp))
    rwa [Nat.mul_one] at this)
   have hget2:=(o_yn hgi (t1,t2,t3)).le (C:=80*B) (by
    have e1:(C.take j).length≤2:=by rw [List.length_take];omega
    have e2:=Nat.mul_le_mul_right B e1
    have e3:i*2*B≤78*B:=Nat.mul_le_mul_right _ (by omega)
    omega)
   have hq1:=hgq.rs hD hB hBD
   have hr1:=hgr.rs hG (Nat.le_refl _) hGs
   have hmul:=o_p0 q r hq1 hr1
   have hadd:=o_ww (innQ q (outQ next A i) (C.take j)) (t1,t2,t3) (q*r) (hget2.rs hDG (by omega) hsz) ((hqr.le (C:=80*B) (by omega)).rs hDG (by omega) hsz)
   have ewj:IntKind.i64.wrap ((j:Int)+1)=((j+1:Nat):Int):=by rw [w64 (by omega) (by omega)];omega
   have hc6:j*6+6≤C.length*6:=by omega
   have hc7:j*6<C.length*6:=by omega
   rw [←hinn] at hadd
   rw [o_wt q,o_wt r,o_wt (q*r),hN,hM] at hmul
   rw [o_wt (q*r)] at hadd
   obtain ⟨P1,P2,P3,hP⟩:∃P1 P2 P3,rcD (q*r)=[P1,P2,P3]:=⟨_,_,_,rfl⟩
   rw [hP] at hmul hadd
   simp only [spO,stD] at hadd
   refine A10 (fs hj2 (fs hj3 (fs hgc (fs hCl (fs hc6 hc7))))) ?_;try with_reducible exact tt
   refine CallS.pu (hmul) (R0 ?_);try with_reducible exact tt
   refine CallS.g [2] (hadd) (R0 ?_);try with_reducible exact tt
   refine A10 ewj ?_;try with_reducible exact tt
   refine ⟨j+1,2,2,⟨by omega,by omega,by omega,by omega⟩,by omega,by omega,?_,?_⟩
   ·simp [swT,swH,sw,Ob.sw,V.ren,V.rens]
   ·simp [swT,swH,sw,Ob.sw,V.ren,V.rens]
  ·have h2:j=C.length:=by omega
   subst h2
   rw [List.take_length,←hon1]
   refine A00 ?_;try with_reducible exact tt
   refine A10 ewi ?_;try with_reducible exact tt
   refine ⟨i+1,2,2,⟨by omega,by omega,by omega,by omega⟩,by omega,by omega,?_,?_⟩
   ·simp [swT,swH,sw,Ob.sw,V.ren,V.rens]
   ·simp [swT,swH,sw,Ob.sw,V.ren,V.rens]
 ·have h2:i=A.length:=by omega
  subst h2
  refine A00 ?_;try with_reducible exact tt
set_option maxHeartbeats 4000000 in
theorem o_zd {f:FuncId} {next:St→Sp} {T1 T2:TypeId} {x0 x1 x2 y0 y1 y2:D} (ho1:T1<1000000) (ho2:T2<1000000) (P:St→Prop) (l:Sp) (G D B:Nat) (hu:Uq l) (hok:∀p∈nzQ l,P p.1) (hnz:nzQ l≠[]) (h12:(nzQ l).length≤40) (hl:l.length≤1000000) (hD:0<D) (hB:1≤B) (hgl:∀p∈l,Gr D B p.2) (hG:0<G) (hf:∀s:St,P s→NextOK next G s∧Eqn Tryz.prog f [.d (.agg (stD s)),.p 0 0,.p 1 0] [⟨T1,[.d x0,.d x1,.d x2]⟩,⟨T2,[.d y0,.d y1,.d y2]⟩] (.mp 2) [⟨T1,[.d x0,.d x1,.d x2]⟩,⟨T2,[.d y0,.d y1,.d y2]⟩,spO (next s)]) (hsz:size (80*B*(D*G))≤100000) :
  Eqn Tryz.prog o_8r [.mp 0,.fn (.func f) [.p 1 0,.p 2 0]] [spO l,⟨T1,[.d x0,.d x1,.d x2]⟩,⟨T2,[.d y0,.d y1,.d y2]⟩] (.mp 3) [spO l,⟨T1,[.d x0,.d x1,.d x2]⟩,⟨T2,[.d y0,.d y1,.d y2]⟩,spO (timesQ next l)]:=by
 refine Eqn.gen [0,1,2,3] o_8t (by simp) (by simp) (by rfl) (by decide) (by simp) (by simp [spO,ho1,ho2]) ?_
 obtain ⟨A,hA⟩:∃A,A=atQ l:=⟨_,rfl⟩
 have hAl:A.length≤40:=by rw [hA,(o_w4 l).length_eq];exact h12
 have hA0:1≤A.length:=by
  rw [hA,(o_w4 l).length_eq]
  rcases Nat.eq_zero_or_pos (nzQ l).length with e | e
  ·exact absurd (List.eq_nil_of_length_eq_zero e) hnz
  ·exact e
 have hAm:∀p∈A,p∈l:=fun p hp=>(List.mem_filter.1 ((o_w4 l).mem_iff.1 (hA▸hp))).1
 have hAz:∀p∈A,p∈nzQ l:=fun p hp=>(o_w4 l).mem_iff.1 (hA▸hp)
 have hDG:0<D*G:=Nat.mul_pos hD hG
 have hBD:size (B*D)≤100000:=by
  refine Nat.le_trans (o_l1 ?_) hsz
  calc B*D=B*D*1:=(Nat.mul_one _).symm
   _≤B*D*(80*G):=Nat.mul_le_mul_left _ (by omega)
   _=80*B*(D*G):=by simp [Nat.mul_comm,Nat.mul_left_comm,Nat.mul_assoc]
 have hat:=o_yh l hu hnz h12 hl (fun p hp=>(hgl p hp).rs hD hB hBD)
 have hGs:size (1*G)≤100000:=by
  refine Nat.le_trans (o_l1 ?_) hsz
  calc 1*G≤(80*B*D)*G:=Nat.mul_le_mul_right _ (Nat.mul_pos (by omega) hD)
   _=80*B*(D*G):=by rw [Nat.mul_assoc]
 have hgn:∀s:St,P s→∀p∈next s,Gr G 1 p.2:=fun s hs=>(hf s hs).1.gr
 have hnl:∀s:St,P s→(atQ (next s)).length≤2:=fun s hs=>Nat.le_trans (o_yt _) (hf s hs).1.len
 have hout:=o_yp (D:=D) (E:=G) (B:=B) (J:=2) (next:=next) (A:=A) (fun p hp=>hgl p (hAm p hp)) (fun p hp=>⟨hgn p.1 (hok p (hAz p hp)),hnl p.1 (hok p (hAz p hp))⟩)
 have hon:=o_yl next A
 have hoa:outQ next A A.length=timesQ next l:=by rw [hA];exact o_ym next l
 have hADl:=o_vm rcD (fun _=>rfl) A
 have hget:=o_yv A
 rw [←hoa]
 rw [←hA] at hat
 have hcl:∀s:St,P s→Eqn Tryz.prog f [.d (.agg (stD s)),.p 0 0,.p 1 0] [⟨T1,[.d x0,.d x1,.d x2]⟩,⟨T2,[.d y0,.d y1,.d y2]⟩] (.mp 2) [⟨T1,[.d x0,.d x1,.d x2]⟩,⟨T2,[.d y0,.d y1,.d y2]⟩,spO (next s)]∧Eqn Tryz.prog o_8f [.mp 0] [spO (next s)] (.d (.sl (atQ (next s)).length (spD rcD (atQ (next s))))) [spO (next s)]:=fun s hs=>by
  obtain ⟨hn,hh⟩:=hf s hs
  refine ⟨hh,o_yh _ hn.uq hn.nz ?_ ?_ fun p hp=>(hgn s hs p hp).rs hG (Nat.le_refl _) hGs⟩
  ·exact Nat.le_trans (List.length_filter_le _ _) (Nat.le_trans hn.len (by omega))
  ·exact Nat.le_trans hn.len (by omega)
 have hAok:∀p∈A,P p.1:=fun p hp=>hok p (hAz p hp)
 clear hA hoa hnz hf
 refine cc (c':=?z263) ?_ ?_
 case refine_1=>cbv<;>exact rfl
 try simp only [spO] at hat hcl ⊢
 generalize hLl:spD rcD l=LL at *
 refine A00 ?_;try with_reducible exact tt
 refine CallS.g [0] (hat) (R0 ?_);try with_reducible exact tt
 refine AW.loopG (α:=Nat) (fun i=>setS (List.replicate 40 .junk) [(1,.fn (.func f) [.p 1 0,.p 2 0]),(5,.mp 3),(12,.d (.sl A.length (spD rcD A))),(13,.d (.int .i64 A.length)),(14,.d (.int .i64 (i:Nat)))]) (fun i=>[some ⟨1000391,LL.map .d⟩,some ⟨T1,[.d x0,.d x1,.d x2]⟩,some ⟨T2,[.d y0,.d y1,.d y2]⟩,some ⟨1000391,(spD rcD (outQ next A i)).map .d⟩]) (fun i=>i≤A.length) (fun i=>A.length-i) 0 ?_ (Nat.zero_le _) ?_ ?_ ?_
 ·intro i hi;simp
 ·simp
 ·simp [outQ,spD]
 rintro i hi
 simp
 by_cases hi2:i<A.length
 ·have hi3:(i:Int)<A.length:=by omega
  obtain ⟨s1,s2,s3,q,N1,N2,N3,hp,hN,hg⟩:=hget i hi2
  have hsk:=hAok _ (List.getElem_mem hi2)
  rw [hp] at hsk
  obtain ⟨hof,han⟩:=hcl (s1,s2,s3) hsk
  have hgq:Gr D B q:=by have:=hgl _ (hAm _ (List.getElem_mem hi2));rw [hp] at this;exact this
  have hon1:=hon i hi2
  rw [hp] at hon1
  simp only at hon1
  have hgo:=hout i hi
  have hn2:=hnl (s1,s2,s3) hsk
  have hgn2:=hgn (s1,s2,s3) hsk
  obtain ⟨C,hC⟩:∃C,C=atQ (next (s1,s2,s3)):=⟨_,rfl⟩
  have hCm:∀p∈C,Gr G 1 p.2:=fun p hp=>hgn2 p (List.mem_filter.1 ((o_w4 _).mem_iff.1 (hC▸hp))).1
  rw [←hC] at hon1 han hn2
  have hCl:=o_vm rcD (fun _=>rfl) C
  have hgetC:=o_yv C
  have ewi:IntKind.i64.wrap ((i:Int)+1)=((i+1:Nat):Int):=by rw [w64 (by omega) (by omega)];omega
  simp only [stD] at hof han
  generalize hNL:spD rcD (next (s1,s2,s3))=NL at *
  have hb6:i*6+6≤A.length*6:=by omega
  have hb7:i*6<A.length*6:=by omega
  refine A10 (fs hi2 (fs hi3 (fs hg (fs hADl (fs hb6 hb7))))) ?_;try with_reducible exact tt
  refine CallS.g [1,2] (hof) (R0 ?_);try with_reducible exact tt
  refine CallS.g [5] (han) (R0 ?_);try with_reducible exact tt
  refine AW.loopG (α:=Nat) (fun j=>setS (List.replicate 40 .junk) [(1,.fn (.func f) [.p 1 0,.p 2 0]),(5,.mp 3),(7,.p 4 0),(12,.d (.sl A.length (spD rcD A))),(13,.d (.int .i64 A.length)),(14,.d (.int .i64 (i:Nat))),(22,.d (.sl C.length (spD rcD C))),(23,.d (.int .i64 C.length)),(24,.d (.int .i64 (j:Nat)))]) (fun j=>[some ⟨1000391,LL.map .d⟩,some ⟨T1,[.d x0,.d x1,.d x2]⟩,some ⟨T2,[.d y0,.d y1,.d y2]⟩,some ⟨1000391,(spD rcD (innQ q (outQ next A i) (C.take j))).map .d⟩,some ⟨75,[.d (.int .i64 s1),.d (.int .i64 s2),.d (.bool s3),.d N1,.d N2,.d N3]⟩]) (fun j=>j≤C.length) (fun j=>C.length-j) 0 ?_ (Nat.zero_le _) ?_ ?_ ?_
  ·intro j hj;simp
  ·simp
  ·simp [innQ]
  rintro j hj
  simp
  by_cases hj2:j<C.length
  ·have hj3:(j:Int)<C.length:=by omega
   obtain ⟨t1,t2,t3,r,M1,M2,M3,hpc,hM,hgc⟩:=hgetC j hj2
   have hinn:=o_yk q (outQ next A i) C j hj2
   have hgr:=hCm _ (List.getElem_mem hj2)
   rw [hpc] at hinn hgr
   simp only at hinn hgr
   have hqr:=hgq.mul hgr
   have hgi:=o_yo (q:=q) (B:=B) hgo (C.take j) (fun p hp=>by
    have:=hgq.mul (hCm p (List.mem_of_mem_take hp))
    rwa [Nat.mul_one] at this)
   have hget2:=(o_yn hgi (t1,t2,t3)).le (C:=80*B) (by
    have e1:(C.take j).length≤2:=by rw [List.length_take];omega
    have e2:=Nat.mul_le_mul_right B e1
    have e3:i*2*B≤78*B:=Nat.mul_le_mul_right _ (by omega)
    omega)
   have hq1:=hgq.rs hD hB hBD
   have hr1:=hgr.rs hG (Nat.le_refl _) hGs
   have hmul:=o_p0 q r hq1 hr1
   have hadd:=o_ww (innQ q (outQ next A i) (C.take j)) (t1,t2,t3) (q*r) (hget2.rs hDG (by omega) hsz) ((hqr.le (C:=80*B) (by omega)).rs hDG (by omega) hsz)
   have ewj:IntKind.i64.wrap ((j:Int)+1)=((j+1:Nat):Int):=by rw [w64 (by omega) (by omega)];omega
   have hc6:j*6+6≤C.length*6:=by omega
   have hc7:j*6<C.length*6:=by omega
   rw [←hinn] at hadd
   rw [o_wt q,o_wt r,o_wt (q*r),hN,hM] at hmul
   rw [o_wt (q*r)] at hadd
   obtain ⟨P1,P2,P3,hP⟩:∃P1 P2 P3,rcD (q*r)=[P1,P2,P3]:=⟨_,_,_,rfl⟩
   rw [hP] at hmul hadd
   simp only [spO,stD] at hadd
   refine A10 (fs hj2 (fs hj3 (fs hgc (fs hCl (fs hc6 hc7))))) ?_;try with_reducible exact tt
   refine CallS.pu (hmul) (R0 ?_);try with_reducible exact tt
   refine CallS.g [3] (hadd) (R0 ?_);try with_reducible exact tt
   refine A10 ewj ?_;try with_reducible exact tt
   refine ⟨j+1,3,3,⟨by omega,by omega,by omega,by omega⟩,by omega,by omega,?_,?_⟩
   ·simp [swT,swH,sw,Ob.sw,V.ren,V.rens]
   ·simp [swT,swH,sw,Ob.sw,V.ren,V.rens]
  ·have h2:j=C.length:=by omega
   subst h2
   rw [List.take_length,←hon1]
   refine A00 ?_;try with_reducible exact tt
   refine A10 ewi ?_;try with_reducible exact tt
   refine ⟨i+1,3,3,⟨by omega,by omega,by omega,by omega⟩,by omega,by omega,?_,?_⟩
   ·simp [swT,swH,sw,Ob.sw,V.ren,V.rens]
   ·simp [swT,swH,sw,Ob.sw,V.ren,V.rens]
 ·have h2:i=A.length:=by omega
  subst h2
  refine A00 ?_;try with_reducible exact tt
end
section
open Go.RowKit
theorem o_ze (n:Nat):wD (n:Int) = .agg [natW n,.bool false]:=by
 unfold wD
 rw [Int.natAbs_natCast]
 congr 4
theorem o_zf (p q:Nat) (h0:0<q) (hp:size p≤900000) (hq:size q≤900000):Eqn Tryz.prog o_83 [.d (.agg [natW p,.bool false]),.d (.agg [natW q,.bool false])] [] (.tup [.d (rD (mkRat p q)),.d (.int .i64 0)]) []:=by
 refine Eqn.pure o_85 Plain.ok ?_
 have ha:=o_mt q false
 have hp1:=o_mt p false
 have hn1:=o_mu p false
 have hn2:=o_mu q false
 have hz:=o_ki q
 have hq0:(q==0)=false:=by simp;omega
 rw [hq0] at hz
 have h4:=o_oq false p (p:Int) rfl
 have h5:=o_ox (p:Int) q h0 (by rw [Int.natAbs_natCast];exact hp) hq
 rw [o_ze] at h4 h5
 refine cc (c':=?z264) ?_ ?_
 case refine_1=>cbv<;>exact rfl
 try simp only [rD] at h5 ⊢
 refine G0 ?_;try with_reducible exact tt
 refine CallS.pu (ha) (R0 ?_);try with_reducible exact tt
 refine CallS.pu (hz) (R0 ?_);try with_reducible exact tt
 refine AW.cond rfl (fun h=>?_) (fun h=>?_)
 ·simp at h
 refine G0 ?_;try with_reducible exact tt
 refine CallS.pu (hn1) (R0 ?_);try with_reducible exact tt
 refine CallS.pu (hn2) (R0 ?_);try with_reducible exact tt
 refine CallS.pu (hp1) (R0 ?_);try with_reducible exact tt
 refine CallS.pu (h4) (R0 ?_);try with_reducible exact tt
 refine CallS.pu (ha) (R0 ?_);try with_reducible exact tt
 refine CallS.pu (h5) (R0 ?_);try with_reducible exact tt
theorem o_zg (x y:Rat) (hx:RS x 100000) (hy:RS y 100000) (hx0:0≤x.num) (hy0:0<y.num):Eqn Tryz.prog o_ey [.d (rD x),.d (rD y)] [] (.tup [.d (rD (x/y)),.d (.int .i64 0)]) []:=by
 refine Eqn.pure o_f0 Plain.ok ?_
 have x1:=hx.1;have x2:=hx.2;have y1:=hy.1;have y2:=hy.2
 obtain ⟨u,hu⟩:∃u:Nat,x.num=(u:Int):=⟨x.num.natAbs,by omega⟩
 obtain ⟨v,hv⟩:∃v:Nat,y.num=(v:Int):=⟨y.num.natAbs,by omega⟩
 have hu2:x.num.natAbs=u:=by omega
 have hv2:y.num.natAbs=v:=by omega
 have h1:=o_ot x.num y.den (by omega) (by rw [Int.natAbs_natCast];omega)
 have h2:=o_ot y.num x.den (by omega) (by rw [Int.natAbs_natCast];omega)
 have h3:=o_oz x (by omega)
 have h4:=o_oz y (by omega)
 rw [hu2] at x1;rw [hv2] at y1
 have s1:=o_om u y.den
 have s2:=o_om v x.den
 have h5:=o_zf (u*y.den) (v*x.den) (Nat.mul_pos (by omega) x.den_pos) (by omega) (by omega)
 have e:mkRat ((u*y.den:Nat):Int) (v*x.den)=x/y:=by
  have hd:=o_yi x.den_pos
  have hd2:=o_yi y.den_pos
  have hv0:(v:Rat)≠0:=o_yi (by omega)
  have ex:x=(u:Rat)/(x.den:Rat):=by
   have h:=Rat.mkRat_self x
   rw [Rat.mkRat_eq_div,hu] at h
   exact h.symm
  have ey:y=(v:Rat)/(y.den:Rat):=by
   have h:=Rat.mkRat_self y
   rw [Rat.mkRat_eq_div,hv] at h
   exact h.symm
  rw [Rat.mkRat_eq_div]
  have k1:(((u*y.den:Nat):Int):Rat)=(u:Rat)*(y.den:Rat):=by push_cast;rfl
  have k2:((v*x.den:Nat):Rat)=(v:Rat)*(x.den:Rat):=by simp
  rw [k1,k2]
  generalize hxd:(x.den:Rat)=xd at *
  generalize hyd:(y.den:Rat)=yd at *
  generalize (u:Rat)=uu at *
  generalize (v:Rat)=vv at *
  rw [ex,ey]
  grind
 rw [e] at h5
 rw [hu] at h1;rw [hv] at h2
 rw [←Int.natCast_mul,o_ze,o_ze,o_ze] at h1 h2
 rw [o_ze] at h3 h4
 refine cc (c':=?z265) ?_ ?_
 case refine_1=>cbv<;>exact rfl
 try simp only [rD,hu2,hv2,hu,hv] at h1 h2 h3 h4 h5 ⊢
 refine G0 ?_;try with_reducible exact tt
 refine CallS.pu (h4) (R0 ?_);try with_reducible exact tt
 refine CallS.pu (h1) (R0 ?_);try with_reducible exact tt
 refine CallS.pu (h3) (R0 ?_);try with_reducible exact tt
 refine CallS.pu (h2) (R0 ?_);try with_reducible exact tt
 refine CallS.pu (h5) (R0 ?_);try with_reducible exact tt
end
section
open Go.RowKit
theorem o_zh:∀a,a<3→∀x,x<15→(placeY a x).shift≤(placeY a (x+1)).shift:=by decide
theorem o_zi {k a w r x:Nat} (h:GoodS k a w) (hk:k≠1) (hr:r≤x) (hx:x≤15):expOf k a r≤expOf k a x:=by
 unfold expOf
 split
 ·exact Nat.div_le_div_right hr
 ·have ha:a<3:=by have:=h.1;omega
  have key:∀d,r+d≤15→(placeY a r).shift≤(placeY a (r+d)).shift:=by
   intro d
   induction d with
   | zero=>intro _;exact Nat.le_refl _
   | succ d ih=>intro hd;exact Nat.le_trans (ih (by omega)) (o_zh a ha (r+d) (by omega))
  have:=key (x-r) (by omega)
  rwa [show r+(x-r)=x by omega] at this
theorem o_zj (e:Nat):mkRat 1 (2^e)*((2^e:Nat):Rat)=1:=by
 rw [Rat.mkRat_eq_div]
 have:=Rat.div_mul_cancel (a:=((1:Int):Rat)) (o_yi (Nat.two_pow_pos e))
 simpa using this
theorem o_zk {e:Nat} (he:e≤63):Gr (2^63) 1 (mkRat 1 (2^e)):=by
 refine ⟨2^(63-e),?_,by rw [Nat.one_mul];exact Nat.pow_le_pow_right (by decide) (by omega)⟩
 have e1:=o_zj e
 have e2:((2^63:Nat):Rat)=((2^e:Nat):Rat)*((2^(63-e):Nat):Rat):=by
  have:2^63=2^e*2^(63-e):=by rw [←Nat.pow_add];congr 1;omega
  rw [this];simp
 rw [e2,←Rat.mul_assoc,e1];grind
theorem o_zl {e f:Nat} (h:f≤e):mkRat 1 (2^e)/mkRat 1 (2^f)=mkRat 1 (2^(e-f)):=by
 have h1:=o_zj e
 have h2:=o_zj f
 have h3:=o_zj (e-f)
 have h4:((2^e:Nat):Rat)=((2^f:Nat):Rat)*((2^(e-f):Nat):Rat):=by
  have:2^e=2^f*2^(e-f):=by rw [←Nat.pow_add];congr 1;omega
  rw [this];simp
 rw [h4] at h1
 generalize mkRat 1 (2^e)=x at *
 generalize mkRat 1 (2^f)=y at *
 generalize mkRat 1 (2^(e-f))=z at *
 generalize ((2^f:Nat):Rat)=u at *
 generalize ((2^(e-f):Nat):Rat)=v at *
 have hy:y≠0:=by intro hy;subst hy;simp at h2
 have:x=z*y:=by grind
 rw [this]
 exact Rat.mul_div_cancel hy
theorem o_zm {a:Nat} (ha:1≤a) (n:Nat):chM a n≠0:=by
 unfold chM
 have h:mkRat (a:Int) (a+1)≠0:=by
  rw [Rat.mkRat_eq_div]
  have h1:((a:Int):Rat)≠0:=o_yi (by omega:0<a)
  have h2:=o_yi (by omega:0<a+1)
  intro e
  have:=Rat.div_mul_cancel (a:=((a:Int):Rat)) h2
  rw [e] at this
  simp at this
  exact h1 (by simpa using this.symm)
 induction n with
 | zero=>simp
 | succ n ih =>
  rw [Rat.pow_succ]
  intro e
  rcases Rat.mul_eq_zero.1 e with e | e
  ·exact ih e
  ·exact h e
theorem o_zn (q:Rat) (m:Nat):∀n,q^(m+n)=q^m*q^n
 | 0=>by simp
 | n+1=>by rw [←Nat.add_assoc,Rat.pow_succ,Rat.pow_succ,o_zn q m n,Rat.mul_assoc]
theorem o_zo {a:Nat} (ha:1≤a) {r x:Nat} (hr:r≤x):chM a x/chM a r=chM a (x-r):=by
 have h:=o_zm ha r
 have e:chM a x=chM a (x-r)*chM a r:=by
  unfold chM
  rw [←o_zn,show x-r+r=x by omega]
 rw [e]
 exact Rat.mul_div_cancel h
theorem gs_a {k a w:Nat} (h:GoodS k a w) (hk:k=1):1≤a∧a≤4:=by
 rcases h.1 with ⟨-,h1,h2⟩ | ⟨h1,-⟩ | ⟨h1,-⟩
 ·exact ⟨h1,h2⟩
 ·omega
 ·omega
theorem o_zp {k a w x:Nat} (h:GoodS k a w) (hx:x≤15):chP k a x≠0:=by
 unfold chP
 split
 ·rename_i hk
  exact o_zm (gs_a h hk).1 x
 ·intro e
  have:=o_zj (expOf k a x)
  rw [e] at this
  simp at this
def ratC (k a r x:Nat):Rat:=if r≤x then chP k a x/chP k a r else 0
theorem o_zq {k a w:Nat} (h:GoodS k a w):∃G:Nat,0<G∧G≤2^63∧(∀x,x≤15→Gr G 1 (chP k a x))∧∀r x,x≤15→Gr G 1 (ratC k a r x):=by
 by_cases hk:k=1
 ·obtain ⟨G,h1,h2,h3⟩:=o_yj h
  refine ⟨G,h1,h2,h3,fun r x hx=>?_⟩
  unfold ratC
  split
  ·rename_i hr
   have:=h3 (x-r) (by omega)
   subst hk
   rw [chP,if_pos rfl] at this ⊢
   rw [chP,if_pos rfl,o_zo (gs_a h rfl).1 hr]
   exact this
  ·exact Gr.zero _ _
 ·refine ⟨2^63,by decide,Nat.le_refl _,fun x hx=>?_,fun r x hx=>?_⟩
  ·rw [chP,if_neg hk]
   have:=o_re h hk hx
   exact o_zk (by omega)
  ·unfold ratC
   split
   ·rename_i hr
    rw [chP,if_neg hk,chP,if_neg hk,o_zl (o_zi h hk hr hx)]
    have:=o_re h hk hx
    exact o_zk (by omega)
   ·exact Gr.zero _ _
theorem o_zr {G:Nat} (hG:0<G) {q:Rat} (h:Gr G 1 q):0≤q∧q≤1:=by
 have hp:(0:Rat)<(G:Rat):=by exact_mod_cast hG
 obtain ⟨z,h1,h2⟩:=h
 refine ⟨?_,?_⟩
 ·apply Classical.byContradiction
  intro hn
  have hz:(0:Rat)≤(z:Rat):=by exact_mod_cast Nat.zero_le z
  have:=Rat.mul_lt_mul_of_pos_right (Rat.not_le.1 hn) hp
  grind
 ·apply Classical.byContradiction
  intro hn
  have hz:(z:Rat)≤(G:Rat):=by exact_mod_cast (by omega:z≤G)
  have:=Rat.mul_lt_mul_of_pos_right (Rat.not_le.1 hn) hp
  grind
theorem o_zs {k a w r x:Nat} (h:GoodS k a w) (hx:x≤15):RS (ratC k a r x) 1000:=by
 obtain ⟨G,h1,h2,-,h3⟩:=o_zq h
 exact (h3 r x hx).rs h1 (Nat.le_refl _) (Nat.le_trans (o_mr (Nat.lt_of_le_of_lt (by omega) (by decide:2^63<2^64))) (by omega))
end
section
open Go.RowKit
def RO (q:Rat):Ob:=⟨47,[.d (natW q.num.natAbs),.d (.bool (decide (q.num<0))),.d (natW (q.den-1))]⟩
def SO (s:St):Ob:=⟨64,[.d (.int .i64 s.1),.d (.int .i64 s.2.1),.d (.bool s.2.2)]⟩
theorem o_zt {G:Nat} (hG:0<G) {q:Rat} (h:Gr G 1 q):0≤q.num:=by
 have:=(o_zr hG h).1
 exact Rat.num_nonneg.2 this
theorem o_zu {k a w:Nat} (h:GoodS k a w) (s:St) (hs:s.1≤topC w) (r:Nat) (hr:r≤s.1) (hrt:r<topC w):Eqn Tryz.prog o_ev [.d (.agg (stD s)),.p 0 0,.p 1 0] [PO k a w,RO (chP k a r)] (.mp 2) [PO k a w,RO (chP k a r),spO (stepQ (topC w) (ratC k a r) s)]:=by
 have h15:topC w≤15:=by have:=Nat.pow_le_pow_right (n:=2) (by omega) h.2.2;unfold topC;omega
 have hl:=o_x7 k a w
 obtain ⟨G,hG,hG63,hc1,hc2⟩:=o_zq h
 have hGs:size (1*G)≤1000:=Nat.le_trans (o_mr (Nat.lt_of_le_of_lt (by omega) (by decide:2^63<2^64))) (by omega)
 have hrs:=o_zs (r:=r) (x:=s.1) h (by omega)
 have hst:stepQ (topC w) (ratC k a r) s=onQ w s (ratC k a r s.1):=rfl
 rw [hst]
 have hrc:ratC k a r s.1=chP k a s.1/chP k a r:=by unfold ratC;rw [if_pos hr]
 have hy0:0<(chP k a r).num:=by
  have h1:=o_zt hG (hc1 r (by omega))
  have h2:(chP k a r).num≠0:=fun e=>o_zp h (x:=r) (by omega) (Rat.num_eq_zero.1 e)
  omega
 have key:∃x0 x1 x2:D,Sub1 (.d (.agg [x0,x1,x2])) (.d (rD (if s.1=topC w then 0 else chP k a s.1)))∧Eqn Tryz.prog o_c0 [.d (parD k a w),.d (.int .i64 s.1)] [] (.tup [.d (.agg [x0,x1,x2]),.d (.int .i64 0)]) []:=by
  by_cases e:s.1=topC w
  ·refine ⟨_,_,_,by rw [if_pos e];exact o_wu,?_⟩
   have:=o_x6 h
   rw [show 2^w-1=s.1 from e.symm] at this
   exact this
  ·refine ⟨_,_,_,by rw [if_neg e];exact Sub1.refl _,o_x5 h (by unfold topC at *;omega)⟩
 obtain ⟨x0,x1,x2,hX,hch⟩:=key
 have key2:∃q:Rat,RS q 1000∧onQ w s q=onQ w s (ratC k a r s.1)∧Eqn Tryz.prog o_ey [.d (.agg [x0,x1,x2]),.d (rD (chP k a r))] [] (.tup [.d (rD q),.d (.int .i64 0)]) []:=by
  have hyr:=((hc1 r (by omega)).rs hG (Nat.le_refl _) hGs).le (show 1000≤100000 by omega)
  by_cases e:s.1=topC w
  ·rw [if_pos e] at hX
   refine ⟨0,⟨by decide,by decide⟩,by unfold onQ;rw [if_pos e,if_pos e],?_⟩
   have:=o_zg 0 (chP k a r) ⟨by decide,by decide⟩ hyr (by decide) hy0
   rw [show (0:Rat)/chP k a r=0 by grind] at this
   exact this.sub (Subs.cons hX (Subs.refl _))
  ·rw [if_neg e] at hX
   refine ⟨ratC k a r s.1,hrs,rfl,?_⟩
   have:=o_zg (chP k a s.1) (chP k a r) (((hc1 s.1 (by omega)).rs hG (Nat.le_refl _) hGs).le (by omega)) hyr (o_zt hG (hc1 s.1 (by omega))) hy0
   rw [←hrc] at this
   exact this.sub (Subs.cons hX (Subs.refl _))
 obtain ⟨q,hq,hqo,hdv⟩:=key2
 have hon:=o_xj h s hs q hq (rD q) (Sub1.refl _) ⟨_,_,_,rfl⟩
 rw [hqo] at hon
 refine Eqn.gen [0,1,5] o_ex (by simp) (by simp) (by rfl) (by decide) (by simp) (by simp [spO,PO,RO]) ?_
 refine cc (c':=?z266) ?_ ?_
 case refine_1=>cbv<;>exact rfl
 try simp only [spO,stD,parD,PO,RO,rD] at hl hch hdv hon ⊢
 generalize spD rcD _=L at *
 generalize natW (chP k a r).num.natAbs=Y0 at *
 generalize natW ((chP k a r).den-1)=Y2 at *
 generalize decide ((chP k a r).num<0)=Y1 at *
 generalize natW q.num.natAbs=Z0 at *
 generalize natW (q.den-1)=Z2 at *
 generalize decide (q.num<0)=Z1 at *
 refine A00 ?_;try with_reducible exact tt
 refine CallS.pu (hl) (R0 ?_);try with_reducible exact tt
 refine CallS.pu (hch) (R0 ?_);try with_reducible exact tt
 refine A00 ?_;try with_reducible exact tt
 refine CallS.pu (hdv) (R0 ?_);try with_reducible exact tt
 refine A00 ?_;try with_reducible exact tt
 refine CallS.nX (hon) (R0 ?_);try with_reducible exact tt
theorem o_zv (s o:St):Eqn Tryz.prog o_f1 [.d (.agg (stD s)),.p 0 0] [SO o] (.mp 1) [SO o,spO [((s.1,s.2.1,s.2.2 || o.2.2),1)]]:=by
 have hsu:=o_x0 (s.1,s.2.1,s.2.2 || o.2.2)
 refine Eqn.gen [0,2] o_f3 (by simp) (by simp) (by rfl) (by decide) (by simp) (by simp [spO,SO]) ?_
 obtain ⟨s1,s2,s3⟩:=s
 obtain ⟨o1,o2,o3⟩:=o
 refine cc (c':=?z267) ?_ ?_
 case refine_1=>cbv<;>exact rfl
 try simp only [spO,stD,SO] at hsu ⊢
 generalize spD rcD _=L at *
 cases s3
 ·simp only [Bool.false_or] at hsu
  refine A00 ?_;try with_reducible exact tt
  refine CallS.nX (hsu) (R0 ?_);try with_reducible exact tt
 ·simp only [Bool.true_or] at hsu
  refine A00 ?_;try with_reducible exact tt
  refine CallS.nX (hsu) (R0 ?_);try with_reducible exact tt
end
section
open Go.RowKit
theorem o_zw {P P':St→Prop} {next:St→Sp} (hn:∀s,P s→kyQ P' (nzQ (next s))) {l:Sp} (h:kyQ P l):kyQ P' (timesQ next l):=by
 have key:∀(k out:Sp),kyQ P' out→kyQ P k→kyQ P' (k.foldl (fun out a=>innQ a.2 out (atQ (next a.1))) out):=by
  intro k
  induction k with
  | nil=>intro out h _;exact h
  | cons a k ih =>
   intro out ho hk
   refine ih _ (o_z2 ho fun p hp=>hn _ (hk a (by simp)) p ((o_w4 _).mem_iff.1 hp)) fun p hp=>hk p (by simp [hp])
 exact key _ _ (fun p hp=>by cases hp) (o_z3 h)
def clQ (top k a:Nat) (s:St):Nat→Sp
 | 0=>[(s,1)]
 | r+1=>timesQ (stepQ top (ratC k a r)) (clQ top k a s r)
def fullQ (f:Bool) (s:St):Sp:=[((s.1,s.2.1,s.2.2 || f),1)]
def mgQ (top k a:Nat) (s o:St):Sp:=timesQ (fullQ o.2.2) (clQ top k a s o.1)
theorem o_zx {top k a:Nat} (s:St):∀r,Uq (clQ top k a s r)
 | 0=>by simp [clQ,Uq]
 | r+1=>o_wc _ _
theorem o_zy {top k a:Nat} (s:St):∀r,exQ (fun _=>1) (clQ top k a s r)=1
 | 0=>by simp only [clQ,exQ];grind
 | r+1=>by
  show exQ (fun _=>1) (timesQ _ (clQ top k a s r))=1
  rw [o_wd]
  have:(fun t=>exQ (fun _=>(1:Rat)) (stepQ top (ratC k a r) t))=fun _=>1:=by
   funext t
   rw [(o_wg (fun _=>1) top _ t).2]
   split
   ·rfl
   ·grind
  rw [this,o_zy s r]
theorem o_zz {top k a:Nat} (s:St) (r:Nat):nzQ (clQ top k a s r)≠[]:=by
 intro h
 have h2:=o_zy (top:=top) (k:=k) (a:=a) s r
 have h3:=o_vy (fun _=>(1:Rat)) (clQ top k a s r)
 rw [show (clQ top k a s r).filter (fun p=>decide (p.2≠0))=nzQ (clQ top k a s r) from rfl,h] at h3
 rw [h2] at h3
 exact absurd h3 (by decide)
theorem o_100 {top k a:Nat} {s:St} (hs:okQ top s):∀r,kyQ (reach top s.1 r) (clQ top k a s r)
 | 0=>fun p hp=>by
  simp [clQ] at hp;subst hp
  obtain ⟨a,b,f⟩:=s
  obtain ⟨h1,h2,h3⟩:=hs
  simp only at h1 h2 h3
  subst h2
  cases f with
  | false=>exact .inr ⟨rfl,Nat.le_refl _,Nat.le_refl _,h1⟩
  | true=>left;rw [h3 rfl]
 | r+1=>o_z4 (fun t ht=>o_z5 ht) (o_100 hs r)
theorem o_101 {k a w:Nat} (h:GoodS k a w) (r:Nat):(∀x,x<topC w→0≤ratC k a r x)∧(∀x,x<topC w→ratC k a r x≤1):=by
 have h15:topC w≤15:=by have:=Nat.pow_le_pow_right (n:=2) (by omega) h.2.2;unfold topC;omega
 obtain ⟨G,hG,-,-,hc⟩:=o_zq h
 exact ⟨fun x hx=>(o_zr hG (hc r x (by omega))).1,fun x hx=>(o_zr hG (hc r x (by omega))).2⟩
theorem cl_ok {k a w:Nat} (h:GoodS k a w) {s:St} (hs:okQ (topC w) s):∀r,oklQ (topC w) (clQ (topC w) k a s r)
 | 0=>fun p hp=>by
  simp [clQ] at hp;subst hp
  exact ⟨hs,(by decide:(0:Rat)≤1)⟩
 | r+1=>o_wn (fun s hs=>o_wo (o_101 h r).1 (o_101 h r).2 hs) (cl_ok h hs r)
theorem cl_up {k a w:Nat} (h:GoodS k a w) {s:St} (hs:okQ (topC w) s):∀r,r≤topC w→kyQ (fun t=>okQ (topC w) t∧r≤t.1) (clQ (topC w) k a s r)
 | 0,_=>fun p hp=>by
  simp [clQ] at hp;subst hp
  exact ⟨hs,Nat.zero_le _⟩
 | r+1,hr=>by
  have h15:topC w≤15:=by have:=Nat.pow_le_pow_right (n:=2) (by omega) h.2.2;unfold topC;omega
  refine o_zw (P:=fun t=>okQ (topC w) t∧r≤t.1) (fun t ht p hp=>?_) (cl_up h hs r (by omega))
  have hp1:p∈stepQ (topC w) (ratC k a r) t:=(List.mem_filter.1 hp).1
  have hp2:p.2≠0:=by have:=(List.mem_filter.1 hp).2;simpa using this
  refine ⟨(o_wo (o_101 h r).1 (o_101 h r).2 ht.1 p hp1).1,?_⟩
  obtain ⟨u1,u2⟩:=ht
  rcases Nat.lt_or_ge r t.1 with hlt | hge
  ·unfold stepQ at hp1
   split at hp1
   ·simp at hp1;subst hp1;exact hlt
   ·unfold eitQ at hp1
    rcases o_wi hp1 with hp1 | rfl
    ·rcases o_wi hp1 with hp1 | rfl
     ·cases hp1
     ·show r+1≤t.1+1;omega
    ·exact hlt
  ·have e:t.1=r:=by omega
   have hne:¬t.1=topC w:=by omega
   have hc1:ratC k a r t.1=1:=by
    unfold ratC
    rw [e,if_pos (Nat.le_refl _)]
    have:=o_zp h (x:=r) (by omega)
    grind
   unfold stepQ at hp1
   rw [if_neg hne,hc1] at hp1
   have hne2:¬(t.1+1,t.2)=t:=fun he=>by have:=congrArg (fun x:St=>x.1) he;simp at this
   have e2:eitQ 1 (t.1+1,t.2) t=[((t.1+1,t.2),1),(t,0)]:=by
    unfold eitQ addQ
    have hne3:¬t=(t.1+1,t.2):=fun e=>hne2 e.symm
    have z1:(0:Rat)+1=1:=Rat.zero_add 1
    have z2:(0:Rat)+(1-1)=0:=by grind
    simp only [setQ,getQ,if_neg hne3,z1,z2]
   rw [e2] at hp1
   rcases List.mem_cons.1 hp1 with rfl | hp1
   ·show r+1≤t.1+1;omega
   ·rcases List.mem_cons.1 hp1 with rfl | hp1
    ·exact absurd rfl hp2
    ·cases hp1
theorem cl_gr {k a w G:Nat} (h:GoodS k a w) (hc:∀r x,x≤15→Gr G 1 (ratC k a r x)) {s:St} (hs:okQ (topC w) s):∀r,r≤15→∀p∈clQ (topC w) k a s r,Gr (G^r) (80^r) p.2
 | 0,_=>fun p hp=>by
  simp [clQ] at hp;subst hp
  exact Gr.one _
 | r+1,hn=>by
  have h15:topC w≤15:=by have:=Nat.pow_le_pow_right (n:=2) (by omega) h.2.2;unfold topC;omega
  have ih:=cl_gr h hc hs r (by omega)
  have hl:=o_z7 (o_zx s r) (o_100 (k:=k) (a:=a) hs r)
  have hA:(atQ (clQ (topC w) k a s r)).length≤40:=Nat.le_trans (o_yt _) (by omega)
  have hm:∀p∈atQ (clQ (topC w) k a s r),p∈clQ (topC w) k a s r:=fun p hp=>(List.mem_filter.1 ((o_w4 _).mem_iff.1 hp)).1
  have:=o_yp (D:=G^r) (E:=G) (B:=80^r) (J:=2) (next:=stepQ (topC w) (ratC k a r)) (A:=atQ (clQ (topC w) k a s r)) (fun p hp=>ih p (hm p hp)) (fun p hp=>⟨o_yu (fun x hx=>hc r x (by omega)) p.1 (cl_ok h hs r p (hm p hp)).1.1,Nat.le_trans (o_yt _) (o_ys _ _ _)⟩) _ (Nat.le_refl _)
  rw [o_ym] at this
  intro p hp
  rw [Nat.pow_succ]
  refine (this p hp).le ?_
  rw [Nat.pow_succ,Nat.mul_comm (80^r) 80]
  exact Nat.mul_le_mul_right _ (by omega)
end
section
open Go.RowKit
def SQ (top:Nat) (c g:Nat→Rat) (k:Nat):Rat:=if k=top then g top else c k*g (k+1)+(1-c k)*g k
def plQ (g:Nat→Rat) (s:St):Rat:=g s.1
theorem o_102 (top:Nat) (c g:Nat→Rat) (s:St):exQ (plQ g) (stepQ top c s)=plQ (SQ top c g) s:=by
 rw [(o_wg (plQ g) top c s).2]
 unfold plQ SQ
 split
 ·rename_i e;rw [e]
 ·rfl
theorem o_103 (top:Nat) (c g:Nat→Rat) (l:Sp):exQ (plQ g) (timesQ (stepQ top c) l)=exQ (plQ (SQ top c g)) l:=by
 rw [o_wd]
 congr 1
 funext s
 exact o_102 top c g s
theorem ex_eq {top:Nat} {g h:St→Rat} (hgh:∀s,s.1≤top→g s=h s):∀{l:Sp},(∀p∈l,p.1.1≤top)→exQ g l=exQ h l
 | [],_=>rfl
 | p::l,hl=>by
  simp only [exQ]
  rw [hgh p.1 (hl p (by simp)),ex_eq hgh (l:=l) fun q hq=>hl q (by simp [hq])]
end
section
open Go.RowKit
theorem o_104 (f:Bool) (G:Nat) (s:St):NextOK (fullQ f) G s where
 uq:=by simp [fullQ,Uq]
 nz:=by simp [fullQ,nzQ]
 len:=by simp [fullQ]
 gr:=fun p hp=>by simp [fullQ] at hp;subst hp;exact Gr.one G
theorem o_105 {k a w G:Nat} (h:GoodS k a w) (hc:∀r x,x≤15→Gr G 1 (ratC k a r x)) (r:Nat) (s:St) (hs:s.1≤topC w):NextOK (stepQ (topC w) (ratC k a r)) G s where
 uq:=(o_wg (fun _=>0) _ _ s).1
 nz:=o_yq s
 len:=o_ys _ _ _
 gr:=o_yu (fun x hx=>hc r x (by
  have:topC w≤15:=by have:=Nat.pow_le_pow_right (n:=2) (by omega) h.2.2;unfold topC;omega
  omega)) s hs
set_option maxHeartbeats 4000000 in
theorem o_106 {k a w:Nat} (h:GoodS k a w) (s o:St) (hs:okQ (topC w) s) (ho:o.1≤topC w) (h7:o.1≤15):Eqn Tryz.prog o_cj [.d (parD k a w),.d (.agg (stD s)),.d (.agg (stD o))] [] (.mp 0) [spO (mgQ (topC w) k a s o)]:=by
 have h15:topC w≤15:=by have:=Nat.pow_le_pow_right (n:=2) (by omega) h.2.2;unfold topC;omega
 obtain ⟨G,hG,hG63,-,hc⟩:=o_zq h
 have hl:=o_x7 k a w
 have hsu:=o_x0 s
 have hfin:Eqn Tryz.prog o_8r [.mp 0,.fn (.func o_f1) [.p 1 0]] [spO (clQ (topC w) k a s o.1),SO o] (.mp 2) [spO (clQ (topC w) k a s o.1),SO o,spO (mgQ (topC w) k a s o)]:=by
  have hl:=o_z7 (o_zx s o.1) (o_100 (k:=k) (a:=a) hs o.1)
  exact o_zc (by decide) (fun _=>True) (clQ (topC w) k a s o.1) G (G^o.1) (80^o.1) (o_zx s _) (fun _ _=>trivial) (o_zz s _) (Nat.le_trans (List.length_filter_le _ _) (Nat.le_trans hl (by omega))) (Nat.le_trans hl (by omega)) (Nat.pow_pos hG) (Nat.pow_pos (by decide)) (cl_gr h hc hs _ (by omega)) hG (fun t _=>⟨o_104 _ _ _,o_zv t o⟩) (o_za hG63 (by omega)).1
 have hro:∀r,r<o.1→Eqn Tryz.prog o_8r [.mp 0,.fn (.func o_ev) [.p 1 0,.p 2 0]] [spO (clQ (topC w) k a s r),PO k a w,RO (chP k a r)] (.mp 3) [spO (clQ (topC w) k a s r),PO k a w,RO (chP k a r),spO (clQ (topC w) k a s (r+1))]:=fun r hr=>by
  have hl:=o_z7 (o_zx s r) (o_100 (k:=k) (a:=a) hs r)
  exact o_zd (by decide) (by decide) (fun t=>okQ (topC w) t∧r≤t.1) (clQ (topC w) k a s r) G (G^r) (80^r) (o_zx s _) (fun p hp=>cl_up h hs r (by omega) p (List.mem_filter.1 hp).1) (o_zz s _) (Nat.le_trans (List.length_filter_le _ _) (Nat.le_trans hl (by omega))) (Nat.le_trans hl (by omega)) (Nat.pow_pos hG) (Nat.pow_pos (by decide)) (cl_gr h hc hs _ (by omega)) hG (fun t ht=>⟨o_105 h hc r t ht.1.1,o_zu h t ht.1.1 r ht.2 (by omega)⟩) (o_za hG63 (by omega)).1
 have hch:∀r,r<o.1→Eqn Tryz.prog o_c0 [.d (parD k a w),.d (.int .i64 r)] [] (.tup [.d (rD (chP k a r)),.d (.int .i64 0)]) []:=fun r hr=>o_x5 h (by unfold topC at ho;omega)
 have hd0:clQ (topC w) k a s 0=[(s,1)]:=rfl
 rw [←hd0] at hsu
 obtain ⟨R,hR⟩:∃R,R=mgQ (topC w) k a s o:=⟨_,rfl⟩
 rw [←hR] at hfin ⊢
 obtain ⟨o1,o2,o3⟩:=o
 simp only at ho h7 hfin hro hch
 generalize topC w=W at *
 refine Eqn.gen [4] o_cl (by simp) (by simp) (by rfl) (by decide) (by simp) (by simp [spO]) ?_
 refine cc (c':=?z268) ?_ ?_
 case refine_1=>cbv<;>exact rfl
 try simp only [spO,stD,parD,PO,RO,SO,rD] at hl hsu hfin hro hch ⊢
 refine A00 ?_;try with_reducible exact tt
 refine CallS.nX (hsu) (R0 ?_);try with_reducible exact tt
 refine AW.loopG (α:=Nat) (fun i=>setS (List.replicate 32 .junk) [(3,.p 0 0),(5,.p 2 0),(7,.mp 3),(14,.d (.int .i64 o1)),(15,.d (.int .i64 (i:Nat)))]) (fun i=>[some ⟨62,[.d (.int .i64 k),.d (.int .i64 a),.d (.int .i64 w)]⟩,none,some ⟨64,[.d (.int .i64 o1),.d (.int .i64 o2),.d (.bool o3)]⟩,some ⟨1000391,(spD rcD (clQ W k a s i)).map .d⟩]) (fun i=>i≤o1) (fun i=>o1-i) 0 ?_ (Nat.zero_le _) ?_ ?_ ?_
 ·intro i hi;simp
 ·simp
 ·simp
 rintro i hi
 simp
 by_cases hi2:i<o1
 ·have hi3:(i:Int)<o1:=by omega
  have ew:IntKind.i64.wrap ((i:Int)+1)=((i+1:Nat):Int):=by rw [w64 (by omega) (by omega)];omega
  have ht:=hro i hi2
  have hci:=hch i hi2
  generalize natW (chP k a i).num.natAbs=Z0 at *
  generalize natW ((chP k a i).den-1)=Z2 at *
  generalize decide ((chP k a i).num<0)=Z1 at *
  refine A10 (fs hi2 hi3) ?_;try with_reducible exact tt
  refine CallS.pu (hl) (R0 ?_);try with_reducible exact tt
  refine CallS.pu (hci) (R0 ?_);try with_reducible exact tt
  refine A00 ?_;try with_reducible exact tt
  refine CallS.g [3,0,4] (ht) (R1 ew ?_);try with_reducible exact tt
  refine A10 ew ?_;try with_reducible exact tt
  refine ⟨i+1,3,5,by omega,by omega,by omega,?_,?_⟩
  ·simp [swT,swH,sw,Ob.sw,V.ren,V.rens]
  ·simp [swT,swH,sw,Ob.sw,V.ren,V.rens]
 ·have h2:i=o1:=by omega
  subst h2
  refine A00 ?_;try with_reducible exact tt
  refine CallS.g [3,2] (hfin) (R0 ?_);try with_reducible exact tt
  done
end
section
open Go.RowKit
def stsD (l:List St):List D:=l.flatMap stD
theorem o_107 (l:List St):(stsD l).length=l.length*3:=by
 unfold stsD
 induction l with
 | nil=>rfl
 | cons s l ih=>rw [List.flatMap_cons,List.length_append,ih];simp [stD];omega
theorem o_108 (l:List St) (i:Nat) (hi:i<l.length):((stsD l).drop (i*3)).take 3=[.int .i64 l[i].1,.int .i64 l[i].2.1,.bool l[i].2.2]:=o_pu (n:=3) (f:=stD) (fun _=>rfl) l i hi
theorem o_109 {k a w:Nat} (h:GoodR k a w) (l:List St) (hl:l.length≤1000000) (hw:∀s∈l,WellR k a w s.1 s.2.1 s.2.2):Eqn Tryz.prog o_es [.d (.sl l.length (stsD l)),.fn (.func o_cg) [.p 0 0]] [PO k a w] (.d (.int .i64 (-1))) [PO k a w]:=by
 refine Eqn.gen [0] o_eu (by simp) (by simp) (by rfl) (by decide) (by simp) (by simp [PO]) ?_
 have hw1:∀i (hi:i<l.length),Eqn Tryz.prog o_cg [.d (.agg [.int .i64 l[i].1,.int .i64 l[i].2.1,.bool l[i].2.2]),.p 0 0] [PO k a w] (.d (.bool false)) [PO k a w]:=fun i hi=>o_yx h l[i] (hw _ (List.getElem_mem hi))
 have hlen:=o_107 l
 have hget:=o_108 l
 refine cc (c':=?z269) ?_ ?_
 case refine_1=>cbv<;>exact rfl
 try simp only [PO] at hw1 ⊢
 refine A00 ?_;try with_reducible exact tt
 refine AW.loopW (α:=Nat) (fun i=>setS (List.replicate 19 .junk) [(0,.d (.sl l.length (stsD l))),(1,.fn (.func o_cg) [.p 0 0]),(7,.d (.int .i64 l.length)),(8,.d (.int .i64 (i:Nat)))]) (fun i=>[some ⟨62,[.d (.int .i64 k),.d (.int .i64 a),.d (.int .i64 w)]⟩]) (fun i=>i≤l.length) (fun i=>l.length-i) 1 (fun _=>rfl) (by simp) 0 (Nat.zero_le _) ?_ ?_ ?_
 ·simp
 ·simp
 rintro i hi
 simp
 by_cases hi2:i<l.length
 ·have hi3:(i:Int)<l.length:=by omega
  have ew:IntKind.i64.wrap ((i:Int)+1)=((i+1:Nat):Int):=by rw [w64 (by omega) (by omega)];omega
  have h1:=hw1 i hi2
  have hg:=hget i hi2
  have hb6:i*3+3≤l.length*3:=by omega
  have hb7:i*3<l.length*3:=by omega
  refine A10 (fs hi2 (fs hi3 (fs hlen (fs hg (fs hb6 hb7))))) ?_;try with_reducible exact tt
  refine CallS.g [0] (h1) (R0 ?_);try with_reducible exact tt
  refine A10 ew ?_;try with_reducible exact tt
  exact ⟨i+1,by omega,by omega,Sub1.refl _⟩
 ·have h2:i=l.length:=by omega
  subst h2
  refine A00 ?_;try with_reducible exact tt
theorem o_10a {k a w:Nat} (h:GoodR k a w) (l:List St) (hl:l.length≤1000000) (hw:∀s∈l,WellR k a w s.1 s.2.1 s.2.2):Eqn Tryz.prog o_cd [.d (.sl l.length (stsD l)),.fn (.func o_cg) [.p 0 0]] [PO k a w] (.d (.bool false)) [PO k a w]:=by
 refine Eqn.gen [0] o_cf (by simp) (by simp) (by rfl) (by decide) (by simp) (by simp [PO]) ?_
 have hi:=o_109 h l hl hw
 refine cc (c':=?z270) ?_ ?_
 case refine_1=>cbv<;>exact rfl
 try simp only [PO] at hi ⊢
 refine A00 ?_;try with_reducible exact tt
 refine CallS.g [0] (hi) (R0 ?_);try with_reducible exact tt
theorem o_10b {k a w:Nat} (h:GoodR k a w) (l:List St) (hl:l.length≤1000000) (hw:∀s∈l,WellR k a w s.1 s.2.1 s.2.2):Eqn Tryz.prog o_8i [.d (parD k a w),.d (.sl l.length (stsD l))] [] (.d (.int .i64 0)) []:=by
 refine Eqn.pure o_8k Plain.ok ?_
 have hc:=o_s4 h
 have hi:=o_10a h l hl hw
 refine cc (c':=?z271) ?_ ?_
 case refine_1=>cbv<;>exact rfl
 try simp only [PO,parD] at hc hi ⊢
 refine A00 ?_;try with_reducible exact tt
 refine CallS.pu (hc) (R0 ?_);try with_reducible exact tt
 refine A00 ?_;try with_reducible exact tt
 refine CallS.g [0] (hi) (R0 ?_);try with_reducible exact tt
 refine A00 ?_;try with_reducible exact tt
theorem o_10c {k a w:Nat} (h:GoodR k a w) (hk:k≠4) (hw4:w≤4) (l:List St) (hl:l.length≤1000000) (hw:∀s∈l,WellR k a w s.1 s.2.1 s.2.2):Eqn Tryz.prog o_89 [.d (parD k a w),.d (.sl l.length (stsD l))] [] (.d (.int .i64 0)) []:=by
 refine Eqn.pure o_8b Plain.ok ?_
 have h1:=o_10b h l hl hw
 have h2:=o_z1 (a:=a) hk (show w≤10 by omega)
 have h16:2^w≤16:=Nat.pow_le_pow_right (n:=2) (by omega) hw4
 generalize 2^w=W at *
 have e1:IntKind.i64.wrap (4*(W:Int))=4*(W:Int):=w64 (by omega) (by omega)
 have e2:¬512<4*(W:Int):=by omega
 refine cc (c':=?z272) ?_ ?_
 case refine_1=>cbv<;>exact rfl
 try simp only [parD] at h1 h2 ⊢
 refine A00 ?_;try with_reducible exact tt
 refine CallS.pu (h1) (R0 ?_);try with_reducible exact tt
 refine A00 ?_;try with_reducible exact tt
 refine CallS.pu (h2) (R1 (fs e1 e2) ?_);try with_reducible exact tt
 refine A10 (fs e1 e2) ?_;try with_reducible exact tt
theorem o_10d {k a w:Nat} (h:GoodS k a w) (s o:St) (hs:okQ (topC w) s) (ho:o.1≤topC w) (h7:o.1≤15):Eqn Tryz.prog o_8x [.d (parD k a w),.d (.agg (stD s)),.d (.agg (stD o))] [] (.mp 0) [spO (mgQ (topC w) k a s o)]:=by
 have hc:=o_106 h s o hs ho h7
 have hk4:¬(k:Int)=4:=by have:=h.1;omega
 have hk4':¬k=4:=by have:=h.1;omega
 generalize mgQ (topC w) k a s o=R at *
 refine Eqn.gen [3] o_8z (by simp) (by simp) (by rfl) (by decide) (by simp) (by simp [spO]) ?_
 refine cc (c':=?z273) ?_ ?_
 case refine_1=>cbv<;>exact rfl
 try simp only [spO,stD,parD] at hc ⊢
 refine A10 (fs hk4 hk4') ?_;try with_reducible exact tt
 refine CallS.nX (hc) (R0 ?_);try with_reducible exact tt
end
section
open Go.RowKit
end
section
open Go.RowKit
theorem o_10e {top k i:Nat} {l:Sp} (hu:Uq l) (h:kyQ (reach top k i) l):l.length≤top+2:=by
 have h1:(l.map (·.1)).length≤((top,0,true)::(List.range (top+1)).map fun j=>(j,0,false):List St).length:=by
  refine List.Nodup.length_le_of_subset hu fun t ht=>?_
  obtain ⟨p,hp,rfl⟩:=List.mem_map.1 ht
  rcases h p hp with e | ⟨e,e1,e2,e3⟩
  ·rw [e];simp
  ·refine List.mem_cons_of_mem _ (List.mem_map.2 ⟨p.1.1,List.mem_range.2 (by omega),?_⟩)
   rw [←e]
 simpa using h1
theorem o_10f {G top:Nat} {c:Nat→Rat} (h7:top≤15) (h0:∀k,k<top→0≤c k) (h1:∀k,k<top→c k≤1) (hc:∀x,x<top→Gr G 1 (c x)) {s:St} (hs:okQ top s):∀n,∀p∈ofQ (stepQ top c) s n,Gr (G^n) (80^n) p.2
 | 0=>fun p hp=>by
  simp [ofQ] at hp;subst hp
  exact Gr.one _
 | n+1=>by
  have ih:=o_10f h7 h0 h1 hc hs n
  have hl:=o_10e (o_we _ s n) (o_z6 (c:=c) hs n)
  have hA:(atQ (ofQ (stepQ top c) s n)).length≤40:=Nat.le_trans (o_yt _) (by omega)
  have hm:∀p∈atQ (ofQ (stepQ top c) s n),p∈ofQ (stepQ top c) s n:=fun p hp=>(List.mem_filter.1 ((o_w4 _).mem_iff.1 hp)).1
  have:=o_yp (D:=G^n) (E:=G) (B:=80^n) (J:=2) (next:=stepQ top c) (A:=atQ (ofQ (stepQ top c) s n)) (fun p hp=>ih p (hm p hp)) (fun p hp=>⟨o_yu hc p.1 (o_wp h0 h1 hs n p (hm p hp)).1.1,Nat.le_trans (o_yt _) (o_ys _ _ _)⟩) _ (Nat.le_refl _)
  rw [o_ym] at this
  intro p hp
  rw [Nat.pow_succ]
  refine (this p hp).le ?_
  rw [Nat.pow_succ,Nat.mul_comm (80^n) 80]
  exact Nat.mul_le_mul_right _ (by omega)
theorem o_10g {G n:Nat} (hG:G≤2^63) (hn:n≤100):size (80*80^n*(G^n*G))≤100000∧size (80^n*G^n)≤100000:=by
 have h1:size G≤1:=o_mr (Nat.lt_of_le_of_lt hG (by decide))
 have h2:size 80≤1:=o_mr (by decide)
 have a1:=o_z9 80 h2 n
 have a2:=o_z9 G h1 n
 have a3:=o_om (80*80^n) (G^n*G)
 have a4:=o_om 80 (80^n)
 have a5:=o_om (G^n) G
 have a6:=o_om (80^n) (G^n)
 omega
set_option maxHeartbeats 4000000 in
theorem o_10h {k a w:Nat} (h:GoodS k a w) (w3:w≤4) (s:St) (hw:WellR k a w s.1 s.2.1 s.2.2) (hs:okQ (topC w) s) (n:Nat) (hn:n≤15):Eqn Tryz.prog o_6x [.d (parD k a w),.d (.agg (stD s)),.d (.int .i64 n)] [] (.tup [.d (.sl (atQ (dstQ k a w s n)).length (spD rcD (atQ (dstQ k a w s n)))),.d (.int .i64 0)]) []:=by
 refine Eqn.pure o_6z Plain.ok ?_
 have hk4:k≠4:=by have:=h.1;omega
 have w4:=h.2.2
 have hg:GoodR k a w:=.inr ⟨hk4,o_rt h⟩
 have h15:topC w≤15:=by have:=Nat.pow_le_pow_right (n:=2) (by omega) h.2.2;unfold topC;omega
 have hwr:=o_z0 hg s hw
 have hst:=o_z1 (a:=a) hk4 (show w≤10 by omega)
 have hsu:=o_x0 s
 obtain ⟨c0,c1⟩:=o_zb h
 obtain ⟨G,hG,hG63,hc⟩:=o_yj h
 have h16:2^w≤16:=Nat.pow_le_pow_right (n:=2) (by omega) w3
 have h7:topC w≤15:=by unfold topC;omega
 have hti:∀i,i≤14→Eqn Tryz.prog o_8r [.mp 0,.fn (.func o_8u) [.p 1 0]] [spO (dstQ k a w s i),PO k a w] (.mp 2) [spO (dstQ k a w s i),PO k a w,spO (dstQ k a w s (i+1))]:=fun i hi=>by
  have hl:=o_10e (o_we _ s i) (o_z6 (c:=chP k a) hs i)
  exact o_yw h (dstQ k a w s i) G (G^i) (80^i) (o_we _ s i) (o_wp c0 c1 hs i) (o_z8 s i) (Nat.le_trans (List.length_filter_le _ _) (Nat.le_trans hl (by omega))) (Nat.le_trans hl (by omega)) (Nat.pow_pos hG) (Nat.pow_pos (by decide)) (o_10f h7 c0 c1 (fun x hx=>hc x (by omega)) hs i) hG hc (o_10g hG63 (by omega)).1
 have hat:Eqn Tryz.prog o_8f [.mp 0] [spO (dstQ k a w s n)] (.d (.sl (atQ (dstQ k a w s n)).length (spD rcD (atQ (dstQ k a w s n))))) [spO (dstQ k a w s n)]:=by
  have hl:=o_10e (o_we _ s n) (o_z6 (c:=chP k a) hs n)
  exact o_yh _ (o_we _ s n) (o_z8 s n) (Nat.le_trans (List.length_filter_le _ _) (Nat.le_trans hl (by omega))) (Nat.le_trans hl (by omega)) (fun p hp=>(o_10f h7 c0 c1 (fun x hx=>hc x (by omega)) hs n p hp).rs (Nat.pow_pos hG) (Nat.pow_pos (by decide)) (o_10g hG63 (by omega)).2)
 have hd0:dstQ k a w s 0=[(s,1)]:=rfl
 rw [←hd0] at hsu
 have e1:IntKind.i64.wrap ((n:Int)+1)=((n+1:Nat):Int):=by rw [w64 (by omega) (by omega)];omega
 obtain ⟨W,hW⟩:∃W,W=2^w:=⟨_,rfl⟩
 rw [←hW] at hst h16
 have hmul:(n+1)*W≤16*16:=Nat.mul_le_mul (by omega) h16
 have e2:IntKind.i64.wrap (((n+1:Nat):Int)*(W:Int))=(((n+1)*W:Nat):Int):=by rw [←Int.natCast_mul];exact w64 (by omega) (by omega)
 obtain ⟨M,hM⟩:∃M,M=(n+1)*W:=⟨_,rfl⟩
 rw [←hM] at e2 hmul
 obtain ⟨n1,hn1⟩:∃n1,n1=n+1:=⟨_,rfl⟩
 rw [←hn1] at e1 e2
 have g1:¬(n:Int)<0:=by omega
 have g2:¬(64:Int)<n:=by omega
 have g3:¬(512:Int)<M:=by omega
 have g4:¬512<M:=by omega
 have g5:¬64<n:=by omega
 generalize hA:atQ (dstQ k a w s n)=A at *
 refine cc (c':=?z275) ?_ ?_
 case refine_1=>cbv<;>exact rfl
 try simp only [stD,parD,spO,PO] at hwr hst hsu hti hat ⊢
 refine A00 ?_;try with_reducible exact tt
 refine CallS.pf 2 3 ⟨64,[.d (.int .i64 s.1),.d (.int .i64 s.2.1),.d (.bool s.2.2)]⟩ [.int .i64 s.1,.int .i64 s.2.1,.bool s.2.2] (hwr) (by first | rfl | (simp [g1,g2,g5];done)) (R1 (fs g1 (fs g2 g5)) ?_);try with_reducible exact tt
 refine A10 (fs g1 (fs g2 (fs g5 e1))) ?_;try with_reducible exact tt
 refine CallS.pu (hst) (R1 (fs e2 (fs g3 g4)) ?_);try with_reducible exact tt
 refine A10 (fs e2 (fs g3 g4)) ?_;try with_reducible exact tt
 refine CallS.nX (hsu) (R0 ?_);try with_reducible exact tt
 refine AW.loopG (α:=Nat) (fun i=>setS (List.replicate 43 .junk) [(3,.p 0 0),(9,.mp 3),(34,.d (.int .i64 n)),(35,.d (.int .i64 (i:Nat)))]) (fun i=>[some ⟨62,[.d (.int .i64 k),.d (.int .i64 a),.d (.int .i64 w)]⟩,none,none,some ⟨1000391,(spD rcD (dstQ k a w s i)).map .d⟩]) (fun i=>i≤n) (fun i=>n-i) 0 ?_ (Nat.zero_le _) ?_ ?_ ?_
 ·intro i hi;simp
 ·simp
 ·simp
 rintro i hi
 simp
 by_cases hi2:i<n
 ·have hi3:(i:Int)<n:=by omega
  have ew:IntKind.i64.wrap ((i:Int)+1)=((i+1:Nat):Int):=by rw [w64 (by omega) (by omega)];omega
  have ht:=hti i (by omega)
  refine A10 (fs hi2 hi3) ?_;try with_reducible exact tt
  refine CallS.g [3,0] (ht) (R1 ew ?_);try with_reducible exact tt
  refine A10 ew ?_;try with_reducible exact tt
  refine ⟨i+1,3,4,by omega,by omega,by omega,?_,?_⟩
  ·simp [swT,swH,sw,Ob.sw,V.ren,V.rens]
  ·simp [swT,swH,sw,Ob.sw,V.ren,V.rens]
 ·have h2:i=n:=by omega
  subst h2
  refine A00 ?_;try with_reducible exact tt
  refine CallS.g [3] (hat) (R0 ?_);try with_reducible exact tt
  done
end
section
open Go.RowKit
theorem o_10i {top:Nat} {t:St} (h:okQ top t):reach top 0 top t:=by
 obtain ⟨a,b,f⟩:=t
 obtain ⟨h1,h2,h3⟩:=h
 simp only at h1 h2 h3
 subst h2
 cases f with
 | false=>exact .inr ⟨rfl,Nat.zero_le _,by simp only;omega,h1⟩
 | true=>left;rw [h3 rfl]
theorem o_10j {top:Nat} {l:Sp} (hu:Uq l) (h:oklQ top l):l.length≤top+2:=o_10e hu (k:=0) (i:=top) fun p hp=>o_10i (h p hp).1
theorem mg_uq {top k a:Nat} (s o:St):Uq (mgQ top k a s o):=o_wc _ _
theorem o_10k {top k a:Nat} (s o:St):exQ (fun _=>1) (mgQ top k a s o)=1:=by
 unfold mgQ
 rw [o_wd]
 have:(fun t=>exQ (fun _=>(1:Rat)) (fullQ o.2.2 t))=fun _=>1:=by
  funext t
  unfold fullQ
  simp only [exQ];grind
 rw [this,o_zy]
theorem o_10l {l:Sp} (h2:exQ (fun _=>1) l=1):nzQ l≠[]:=by
 intro h
 have h3:=o_vy (fun _=>(1:Rat)) l
 rw [show l.filter (fun p=>decide (p.2≠0))=nzQ l from rfl,h] at h3
 rw [h2] at h3
 exact absurd h3 (by decide)
theorem mg_nz {top k a:Nat} (s o:St):nzQ (mgQ top k a s o)≠[]:=o_10l (o_10k s o)
theorem o_10m {next:St→Sp} {l:Sp} (hn:∀p∈l,∀q∈next p.1,0≤q.2) (h:∀p∈l,0≤p.2):∀p∈timesQ next l,0≤p.2:=by
 have hget:∀(l:Sp) (s:St),(∀p∈l,0≤p.2)→0≤getQ l s:=by
  intro l s
  induction l with
  | nil=>intro _;exact Rat.le_refl
  | cons p l ih =>
   intro h
   unfold getQ
   split
   ·exact h p (by simp)
   ·exact ih fun q hq=>h q (by simp [hq])
 have hin:∀(q:Rat) (k out:Sp),0≤q→(∀p∈out,0≤p.2)→(∀p∈k,0≤p.2)→∀p∈innQ q out k,0≤p.2:=by
  intro q k
  induction k with
  | nil=>intro out _ h _;exact h
  | cons b k ih =>
   intro out hq ho hk
   refine ih (addQ out b.1 (q*b.2)) hq (fun p hp=>?_) fun p hp=>hk p (by simp [hp])
   rcases o_wi hp with hp | rfl
   ·exact ho p hp
   ·have h1:=hget out b.1 ho
    have h2:=Rat.mul_nonneg hq (hk b (by simp))
    show 0≤getQ out b.1+q*b.2
    grind
 have key:∀(k out:Sp),(∀p∈out,0≤p.2)→(∀p∈k,0≤p.2∧∀q∈next p.1,0≤q.2)→∀p∈k.foldl (fun out a=>innQ a.2 out (atQ (next a.1))) out,0≤p.2:=by
  intro k
  induction k with
  | nil=>intro out h _;exact h
  | cons a k ih =>
   intro out ho hk
   obtain ⟨h1,h2⟩:=hk a (by simp)
   exact ih _ (hin _ _ _ h1 ho fun p hp=>h2 p (List.mem_filter.1 ((o_w4 _).mem_iff.1 hp)).1) fun p hp=>hk p (by simp [hp])
 refine key _ _ (fun p hp=>by cases hp) fun p hp=>?_
 have hp':=(List.mem_filter.1 ((o_w4 l).mem_iff.1 hp)).1
 exact ⟨h p hp',hn p hp'⟩
theorem mg_ok {k a w:Nat} (h:GoodS k a w) {s o:St} (hs:okQ (topC w) s) (ho:okQ (topC w) o):oklQ (topC w) (mgQ (topC w) k a s o):=by
 have hup:=cl_up h hs o.1 ho.1
 have h1:kyQ (okQ (topC w)) (mgQ (topC w) k a s o):=by
  refine o_zw (P:=fun t=>okQ (topC w) t∧o.1≤t.1) (fun t ht p hp=>?_) hup
  have hp1:p∈fullQ o.2.2 t:=(List.mem_filter.1 hp).1
  simp [fullQ] at hp1
  subst hp1
  obtain ⟨⟨a1,a2,a3⟩,a4⟩:=ht
  refine ⟨a1,a2,fun hf=>?_⟩
  simp only [Bool.or_eq_true] at hf
  rcases hf with hf | hf
  ·exact a3 hf
  ·have:=ho.2.2 hf
   show t.1=topC w
   omega
 have h2:∀p∈mgQ (topC w) k a s o,0≤p.2:=o_10m (fun p hp q hq=>by
  simp [fullQ] at hq;subst hq
  exact (by decide:(0:Rat)≤1)) fun p hp=>(cl_ok h hs o.1 p hp).2
 exact fun p hp=>⟨h1 p hp,h2 p hp⟩
theorem mg_gr {k a w G:Nat} (h:GoodS k a w) (hc:∀r x,x≤15→Gr G 1 (ratC k a r x)) {s o:St} (hs:okQ (topC w) s) (ho:o.1≤15):∀p∈mgQ (topC w) k a s o,Gr (G^o.1*G) (80*80^o.1) p.2:=by
 have hl:=o_z7 (o_zx s o.1) (o_100 (k:=k) (a:=a) hs o.1)
 have hA:(atQ (clQ (topC w) k a s o.1)).length≤40:=Nat.le_trans (o_yt _) (by omega)
 have hm:∀p∈atQ (clQ (topC w) k a s o.1),p∈clQ (topC w) k a s o.1:=fun p hp=>(List.mem_filter.1 ((o_w4 _).mem_iff.1 hp)).1
 have:=o_yp (D:=G^o.1) (E:=G) (B:=80^o.1) (J:=2) (next:=fullQ o.2.2) (A:=atQ (clQ (topC w) k a s o.1)) (fun p hp=>cl_gr h hc hs o.1 (by omega) p (hm p hp)) (fun p hp=>⟨(o_104 o.2.2 G p.1).gr,Nat.le_trans (o_yt _) (o_104 o.2.2 G p.1).len⟩) _ (Nat.le_refl _)
 rw [o_ym] at this
 intro p hp
 exact (this p hp).le (Nat.mul_le_mul_right _ (by omega))
theorem o_10n {k a w:Nat} (h:GoodS k a w) {o:St} (h1:o.1≤15) {s:St} (hs:okQ (topC w) s) (ho:okQ (topC w) o):Eqn Tryz.prog o_8f [.mp 0] [spO (mgQ (topC w) k a s o)] (.d (.sl (atQ (mgQ (topC w) k a s o)).length (spD rcD (atQ (mgQ (topC w) k a s o))))) [spO (mgQ (topC w) k a s o)]:=by
 have h8:2^w≤16:=Nat.pow_le_pow_right (n:=2) (by omega) h.2.2
 have h7:topC w≤15:=by unfold topC;omega
 obtain ⟨G,hG,hG63,-,hc⟩:=o_zq h
 have hl:=o_10j (mg_uq (top:=topC w) (k:=k) (a:=a) s o) (mg_ok h hs ho)
 refine o_yh _ (mg_uq s o) (mg_nz s o) (Nat.le_trans (List.length_filter_le _ _) (by omega)) (by omega) fun p hp=>(mg_gr h hc hs (by omega) p hp).rs (Nat.mul_pos (Nat.pow_pos hG) hG) (Nat.mul_pos (by decide) (Nat.pow_pos (by decide))) (o_10g hG63 (by omega)).1
end
section
open Go.RowKit
def chs:Nat→Nat→Nat
 | _,0=>1
 | 0,_+1=>0
 | n+1,k+1=>chs n k+chs n (k+1)
theorem chs_z (n:Nat):chs n 0=1:=by cases n<;>rfl
theorem o_10o:∀{n k:Nat},n<k→chs n k=0
 | 0,k+1,_=>rfl
 | n+1,k+1,h=>by
  show chs n k+chs n (k+1)=0
  rw [o_10o (by omega),o_10o (by omega)]
theorem o_10p:∀n k:Nat,chs n k≤2^n
 | n,0=>by rw [chs_z];exact Nat.two_pow_pos n
 | 0,k+1=>Nat.zero_le _
 | n+1,k+1=>by
  have h1:=o_10p n k
  have h2:=o_10p n (k+1)
  show chs n k+chs n (k+1)≤2^(n+1)
  rw [Nat.pow_succ];omega
theorem o_10q:∀n k:Nat,k≤n→chs n (k+1)*(k+1)=chs n k*(n-k)
 | 0,k,h=>by
  have:k=0:=by omega
  subst this;rfl
 | n+1,0,_=>by
  have h:=o_10q n 0 (Nat.zero_le _)
  show (chs n 0+chs n 1)*1=chs (n+1) 0*(n+1)
  rw [chs_z] at h ⊢
  rw [chs_z]
  simp at h ⊢
  omega
 | n+1,k+1,h=>by
  have h1:=o_10q n k (by omega)
  show (chs n (k+1)+chs n (k+2))*(k+2)=(chs n k+chs n (k+1))*(n+1-(k+1))
  rw [show n+1-(k+1)=n-k by omega,Nat.add_mul (chs n k),←h1]
  rcases Nat.lt_or_ge k n with h3 | h3
  ·have h2:=o_10q n (k+1) (by omega)
   rw [Nat.add_mul,h2,←Nat.mul_add,←Nat.mul_add]
   congr 1;omega
  ·have e:k=n:=by omega
   subst e
   rw [o_10o (show k<k+1 by omega),o_10o (show k<k+2 by omega)];simp
def wayQ (K:Nat):Nat→Nat
 | 0=>1
 | k+1=>wayQ K k*(K-k)/(k+1)
theorem o_10r (K:Nat):∀k,k≤K+1→wayQ K k=chs K k
 | 0,_=>(chs_z K).symm
 | k+1,h=>by
  show wayQ K k*(K-k)/(k+1)=_
  rw [o_10r K k (by omega),←o_10q K k (by omega),Nat.mul_div_cancel _ (by omega)]
def binP (K k:Nat):Rat:=((wayQ K k:Nat):Rat)*mkRat 1 (2^K)
def binI (s:St):Nat→Sp
 | 0=>[]
 | i+1=>addQ (binI s i) (i,s.2.1+1,s.2.2) (binP s.1 i)
def binQ (s:St):Sp:=binI s (s.1+1)
def bex:Nat→(Nat→Rat)→Rat
 | 0,g=>g 0
 | n+1,g=>mkRat 1 2*(bex n g+bex n fun k=>g (k+1))
def csum (n:Nat) (g:Nat→Rat):Nat→Rat
 | 0=>0
 | i+1=>csum n g i+((chs n i:Nat):Rat)*g i
theorem o_10s (n:Nat) (g:Nat→Rat):∀i,csum (n+1) g (i+1)=g 0+csum n (fun k=>g (k+1)) i+(csum n g (i+1)-g 0)
 | 0=>by
  simp only [csum,chs_z]
  have:((1:Nat):Rat)=1:=rfl
  rw [this];grind
 | i+1=>by
  have ih:=o_10s n g i
  rw [csum,ih]
  have e1:csum n g (i+1+1)=csum n g (i+1)+((chs n (i+1):Nat):Rat)*g (i+1):=rfl
  have e2:csum n (fun k=>g (k+1)) (i+1)=csum n (fun k=>g (k+1)) i+((chs n i:Nat):Rat)*g (i+1):=rfl
  have e3:((chs (n+1) (i+1):Nat):Rat)=((chs n i:Nat):Rat)+((chs n (i+1):Nat):Rat):=by
   rw [←Rat.natCast_add];rfl
  rw [e1,e2,e3];grind
theorem o_10t (n:Nat):(mkRat 1 (2^n))*((2^n:Nat):Rat)=1:=by
 rw [Rat.mkRat_eq_div]
 exact Rat.div_mul_cancel (o_yi (Nat.two_pow_pos n))
theorem o_10u (n:Nat):mkRat 1 (2^(n+1))=mkRat 1 2*mkRat 1 (2^n):=by
 rw [Rat.mkRat_mul_mkRat,Nat.pow_succ,Nat.mul_comm];rfl
theorem o_10v:∀(n:Nat) (g:Nat→Rat),csum n g (n+1)*mkRat 1 (2^n)=bex n g
 | 0,g=>by
  simp only [csum,bex,chs_z]
  have:((1:Nat):Rat)=1:=rfl
  rw [this,show mkRat 1 (2^0)=1 from rfl];grind
 | n+1,g=>by
  have h1:=o_10v n g
  have h2:=o_10v n fun k=>g (k+1)
  show _=mkRat 1 2*(bex n g+bex n fun k=>g (k+1))
  rw [←h1,←h2,o_10s,o_10u]
  have e1:csum n g (n+1+1)=csum n g (n+1):=by
   show csum n g (n+1)+((chs n (n+1):Nat):Rat)*g (n+1)=_
   rw [o_10o (by omega)]
   have:((0:Nat):Rat)=0:=rfl
   rw [this];grind
  rw [e1];grind
theorem o_10w {s:St}:∀i,∀p∈binI s i,p.1.1<i∧p.1.2=(s.2.1+1,s.2.2)
 | 0,p,hp=>by cases hp
 | i+1,p,hp=>by
  rcases o_wi hp with hp | rfl
  ·have:=o_10w i p hp
   exact ⟨by omega,this.2⟩
  ·exact ⟨by simp,rfl⟩
theorem o_10x (s:St):∀i,Uq (binI s i)
 | 0=>by simp [binI,Uq]
 | i+1=>o_vu (o_10x s i)
theorem o_10y (s:St) (g:St→Rat):∀i,i≤s.1+1→exQ g (binI s i)=csum s.1 (fun k=>g (k,s.2.1+1,s.2.2)) i*mkRat 1 (2^s.1)
 | 0,_=>by simp only [binI,exQ,csum];grind
 | i+1,h=>by
  show exQ g (addQ (binI s i) _ _)=_
  rw [o_vv g _ _ _ (o_10x s i),o_10y s g i (by omega)]
  unfold binP
  rw [o_10r _ _ (by omega)]
  simp only [csum];grind
theorem o_10z (s:St) (g:St→Rat):exQ g (binQ s)=bex s.1 fun k=>g (k,s.2.1+1,s.2.2):=by
 unfold binQ
 rw [o_10y s g _ (Nat.le_refl _),o_10v]
theorem o_110 (c:Rat):∀n,bex n (fun _=>c)=c
 | 0=>rfl
 | n+1=>by
  show mkRat 1 2*(bex n (fun _=>c)+bex n fun _=>c)=c
  rw [o_110 c n]
  have h:mkRat 1 2*2=1:=by decide +kernel
  grind
theorem o_111 (u v:Rat):∀(n:Nat) (g h:Nat→Rat),bex n (fun k=>u*g k+v*h k)=u*bex n g+v*bex n h
 | 0,g,h=>rfl
 | n+1,g,h=>by
  show mkRat 1 2*(bex n (fun k=>u*g k+v*h k)+bex n fun k=>u*g (k+1)+v*h (k+1))=_
  rw [o_111 u v n g h,o_111 u v n (fun k=>g (k+1)) fun k=>h (k+1)]
  simp only [bex];grind
theorem o_112:∀(n:Nat),bex n (fun k=>(k:Rat))=(n:Rat)*mkRat 1 2
 | 0=>by simp only [bex];have:((0:Nat):Rat)=0:=rfl;rw [this];grind
 | n+1=>by
  show mkRat 1 2*(bex n (fun k=>(k:Rat))+bex n fun k=>((k+1:Nat):Rat))=_
  have e:(fun k:Nat=>((k+1:Nat):Rat))=fun k:Nat=>1*(k:Rat)+1*(fun _=>(1:Rat)) k:=by
   funext k;rw [Rat.natCast_add]
   have:((1:Nat):Rat)=1:=rfl
   rw [this];grind
  rw [e,o_111,o_112 n,o_110,Rat.natCast_add]
  have h:mkRat 1 2*2=1:=by decide +kernel
  have:((1:Nat):Rat)=1:=rfl
  rw [this];grind
end
section
open Go.RowKit
def Gi (e:Nat) (q:Rat):Prop:=∃z:Nat,q*((2^e:Nat):Rat)=(z:Rat)
theorem Gi.nn {e:Nat} {q:Rat} (h:Gi e q):0≤q:=by
 obtain ⟨z,h⟩:=h
 have hp:(0:Rat)<((2^e:Nat):Rat):=by exact_mod_cast Nat.two_pow_pos e
 apply Classical.byContradiction
 intro hn
 have hz:(0:Rat)≤(z:Rat):=by exact_mod_cast Nat.zero_le z
 have:=Rat.mul_lt_mul_of_pos_right (Rat.not_le.1 hn) hp
 grind
theorem Gi.zero (e:Nat):Gi e 0:=⟨0,by rw [Rat.zero_mul];rfl⟩
theorem Gi.one (e:Nat):Gi e 1:=⟨2^e,by rw [Rat.one_mul]⟩
theorem Gi.add {e:Nat} {x y:Rat} (hx:Gi e x) (hy:Gi e y):Gi e (x+y):=by
 obtain ⟨z,h1⟩:=hx
 obtain ⟨w,h2⟩:=hy
 refine ⟨z+w,?_⟩
 rw [Rat.natCast_add,←h1,←h2];grind
theorem Gi.mul {e f:Nat} {x y:Rat} (hx:Gi e x) (hy:Gi f y):Gi (e+f) (x*y):=by
 obtain ⟨z,h1⟩:=hx
 obtain ⟨w,h2⟩:=hy
 refine ⟨z*w,?_⟩
 rw [Rat.natCast_mul,←h1,←h2,Nat.pow_add,Rat.natCast_mul];grind
theorem Gi.up {e f:Nat} {x:Rat} (h:Gi e x) (hf:e≤f):Gi f x:=by
 have:=h.mul (Gi.one (f-e))
 rw [Rat.mul_one,show e+(f-e)=f by omega] at this
 exact this
theorem Gi.gr {e:Nat} {x:Rat} (h:Gi e x) (h1:x≤1):Gr (2^e) 1 x:=by
 obtain ⟨z,h⟩:=h
 refine ⟨z,h,?_⟩
 have hp:(0:Rat)≤((2^e:Nat):Rat):=by exact_mod_cast Nat.zero_le _
 have h2:=Rat.mul_le_mul_of_nonneg_right h1 hp
 rw [h,Rat.one_mul] at h2
 have:z≤2^e:=by exact_mod_cast h2
 omega
structure SpOK (e:Nat) (P:St→Prop) (l:Sp):Prop where
 uq:Uq l
 one:exQ (fun _=>1) l=1
 gi:∀p∈l,Gi e p.2
 ky:kyQ P l
theorem SpOK.nn {e:Nat} {P:St→Prop} {l:Sp} (h:SpOK e P l):∀p∈l,0≤p.2:=fun p hp=>(h.gi p hp).nn
theorem ex_nn {g:St→Rat}:∀{l:Sp},(∀p∈l,0≤p.2)→(∀p∈l,0≤g p.1)→0≤exQ g l
 | [],_,_=>Rat.le_refl
 | p::l,h,hg=>by
  have h1:=ex_nn (l:=l) (g:=g) (fun q hq=>h q (by simp [hq])) (fun q hq=>hg q (by simp [hq]))
  have h2:=Rat.mul_nonneg (h p (by simp)) (hg p (by simp))
  simp only [exQ];grind
theorem o_113 {l:Sp} (h0:∀p∈l,0≤p.2) (h1:exQ (fun _=>1) l≤1):∀p∈l,p.2≤1:=by
 induction l with
 | nil=>intro p hp;cases hp
 | cons q l ih =>
  have h2:0≤exQ (fun _=>(1:Rat)) l:=ex_nn (fun p hp=>h0 p (by simp [hp])) fun _ _=>(by decide:(0:Rat)≤1)
  have h3:=h0 q (by simp)
  simp only [exQ] at h1
  intro p hp
  rcases List.mem_cons.1 hp with rfl | hp
  ·grind
  ·exact ih (fun p hp=>h0 p (by simp [hp])) (by grind) p hp
theorem SpOK.gr {e:Nat} {P:St→Prop} {l:Sp} (h:SpOK e P l):∀p∈l,Gr (2^e) 1 p.2:=fun p hp=>(h.gi p hp).gr (o_113 h.nn (by rw [h.one];exact Rat.le_refl) p hp)
theorem SpOK.nz {e:Nat} {P:St→Prop} {l:Sp} (h:SpOK e P l):nzQ l≠[]:=o_10l h.one
theorem SpOK.mono {e f:Nat} {P Q:St→Prop} {l:Sp} (h:SpOK e P l) (hf:e≤f) (hQ:∀s,P s→Q s):SpOK f Q l:=⟨h.uq,h.one,fun p hp=>(h.gi p hp).up hf,fun p hp=>hQ _ (h.ky p hp)⟩
theorem SpOK.sure {P:St→Prop} (s:St) (hs:P s) (e:Nat):SpOK e P [(s,1)] where
 uq:=by simp [Uq]
 one:=by simp only [exQ];grind
 gi:=fun p hp=>by simp at hp;subst hp;exact Gi.one e
 ky:=fun p hp=>by simp at hp;subst hp;exact hs
theorem o_114 {e:Nat} {l:Sp} (h:∀p∈l,Gi e p.2) (s:St):Gi e (getQ l s):=by
 induction l with
 | nil=>exact Gi.zero e
 | cons p l ih =>
  unfold getQ
  split
  ·exact h p (by simp)
  ·exact ih fun q hq=>h q (by simp [hq])
theorem o_115 {e:Nat} {l:Sp} (h:∀p∈l,Gi e p.2) {s:St} {q:Rat} (hq:Gi e q):∀p∈addQ l s q,Gi e p.2:=by
 intro p hp
 rcases o_wi hp with hp | rfl
 ·exact h p hp
 ·exact (o_114 h s).add hq
theorem o_116 {e f:Nat} {q:Rat} (hq:Gi e q):∀{l out:Sp},(∀p∈out,Gi (e+f) p.2)→(∀p∈l,Gi f p.2)→∀p∈innQ q out l,Gi (e+f) p.2
 | [],out,h,_=>h
 | b::l,out,h,hl=>o_116 hq (out:=addQ out b.1 (q*b.2)) (l:=l) (o_115 h (hq.mul (hl b (by simp)))) fun p hp=>hl p (by simp [hp])
theorem o_117 {e f:Nat} {next:St→Sp} {l:Sp} (h:∀p∈l,Gi e p.2) (hn:∀p∈l,∀q∈next p.1,Gi f q.2):∀p∈timesQ next l,Gi (e+f) p.2:=by
 have key:∀(k out:Sp),(∀p∈out,Gi (e+f) p.2)→(∀p∈k,Gi e p.2∧∀q∈next p.1,Gi f q.2)→∀p∈k.foldl (fun out a=>innQ a.2 out (atQ (next a.1))) out,Gi (e+f) p.2:=by
  intro k
  induction k with
  | nil=>intro out h _;exact h
  | cons a k ih =>
   intro out ho hk
   obtain ⟨h1,h2⟩:=hk a (by simp)
   exact ih _ (o_116 h1 ho fun p hp=>h2 p (List.mem_filter.1 ((o_w4 _).mem_iff.1 hp)).1) fun p hp=>hk p (by simp [hp])
 refine key _ _ (fun p hp=>by cases hp) fun p hp=>?_
 have hp':=(List.mem_filter.1 ((o_w4 l).mem_iff.1 hp)).1
 exact ⟨h p hp',hn p hp'⟩
theorem o_118 {g h:St→Rat}:∀{l:Sp},(∀p∈l,g p.1=h p.1)→exQ g l=exQ h l
 | [],_=>rfl
 | p::l,hl=>by
  simp only [exQ]
  rw [hl p (by simp),o_118 (l:=l) fun q hq=>hl q (by simp [hq])]
theorem SpOK.times {e f:Nat} {P Q:St→Prop} {next:St→Sp} {l:Sp} (h:SpOK e P l) (hn:∀s,P s→SpOK f Q (next s)):SpOK (e+f) Q (timesQ next l) where
 uq:=o_wc _ _
 one:=by
  rw [o_wd,o_118 (h:=fun _=>1) fun p hp=>(hn _ (h.ky p hp)).one]
  exact h.one
 gi:=o_117 h.gi fun p hp=>(hn _ (h.ky p hp)).gi
 ky:=by
  have key:∀(k out:Sp),kyQ Q out→(∀p∈k,P p.1)→kyQ Q (k.foldl (fun out a=>innQ a.2 out (atQ (next a.1))) out):=by
   intro k
   induction k with
   | nil=>intro out h _;exact h
   | cons a k ih =>
    intro out ho hk
    exact ih _ (o_z2 ho (o_z3 (hn _ (hk a (by simp))).ky)) fun p hp=>hk p (by simp [hp])
  exact key _ _ (fun p hp=>by cases hp) fun p hp=>h.ky p (List.mem_filter.1 ((o_w4 l).mem_iff.1 hp)).1
theorem o_119 (n:Nat):Gi n (mkRat 1 (2^n)):=⟨1,o_10t n⟩
theorem o_11a (n:Nat):Gi n (1-mkRat 1 (2^n)):=by
 refine ⟨2^n-1,?_⟩
 have h:=o_10t n
 have h1:=Nat.two_pow_pos n
 have e:((2^n:Nat):Rat)=((2^n-1:Nat):Rat)+((1:Nat):Rat):=by rw [←Rat.natCast_add,Nat.sub_add_cancel h1]
 have e1:((1:Nat):Rat)=1:=rfl
 rw [e1] at e
 grind
theorem SpOK.eit {e:Nat} {P:St→Prop} {x:Rat} {s o:St} (hx:Gi e x) (hy:Gi e (1-x)) (hs:P s) (ho:P o):SpOK e P (eitQ x s o) where
 uq:=(o_wf (fun _=>0) x s o).1
 one:=by rw [(o_wf (fun _=>1) x s o).2];grind
 gi:=o_115 (o_115 (fun p hp=>by cases hp) hx) hy
 ky:=fun p hp=>by
  unfold eitQ at hp
  rcases o_wi hp with hp | rfl
  ·rcases o_wi hp with hp | rfl
   ·cases hp
   ·exact hs
  ·exact ho
theorem SpOK.bin (s:St):SpOK s.1 (fun t=>t.1≤s.1∧t.2=(s.2.1+1,s.2.2)) (binQ s) where
 uq:=o_10x s _
 one:=by rw [o_10z,o_110]
 gi:=by
  have key:∀i,i≤s.1+1→∀p∈binI s i,Gi s.1 p.2:=by
   intro i
   induction i with
   | zero=>intro _ p hp;cases hp
   | succ i ih =>
    intro hi
    refine o_115 (ih (by omega)) ?_
    have h:=(o_119 s.1)
    obtain ⟨z,hz⟩:=h
    refine ⟨wayQ s.1 i*z,?_⟩
    unfold binP
    rw [Rat.natCast_mul,←hz];grind
  exact key _ (Nat.le_refl _)
 ky:=fun p hp=>by
  have:=o_10w _ p hp
  exact ⟨by omega,this.2⟩
def downF (A:Nat):Nat→St→Sp
 | 0,s=>if s.1≤A then [(s,1)] else [((A,s.2.1,true),1)]
 | f+1,s=>if s.1≤A then [(s,1)] else timesQ (downF A f) (binQ s)
def downA (A B:Nat) (s:St):Sp:=downF A (B-s.2.1) s
theorem o_11b {next next':St→Sp} {l:Sp} (h:∀p∈l,next p.1=next' p.1):timesQ next l=timesQ next' l:=by
 have key:∀(k out:Sp),(∀p∈k,next p.1=next' p.1)→k.foldl (fun out a=>innQ a.2 out (atQ (next a.1))) out=k.foldl (fun out a=>innQ a.2 out (atQ (next' a.1))) out:=by
  intro k
  induction k with
  | nil=>intro out _;rfl
  | cons a k ih =>
   intro out hk
   rw [List.foldl_cons,List.foldl_cons,hk a (by simp)]
   exact ih _ fun p hp=>hk p (by simp [hp])
 exact key _ _ fun p hp=>h p (List.mem_filter.1 ((o_w4 l).mem_iff.1 hp)).1
theorem o_11c {A B:Nat} {s:St} (h:s.1≤A):downA A B s=[(s,1)]:=by
 unfold downA
 generalize B-s.2.1=f
 cases f<;>simp [downF,h]
theorem o_11d {A B:Nat} {s:St} (h:¬s.1≤A) (hT:s.2.1=B):downA A B s=[((A,s.2.1,true),1)]:=by
 unfold downA
 rw [show B-s.2.1=0 by omega]
 simp [downF,h]
theorem o_11e {A B:Nat} {s:St} (h:¬s.1≤A) (hT:s.2.1<B):downA A B s=timesQ (downA A B) (binQ s):=by
 have e:downA A B s=timesQ (downF A (B-s.2.1-1)) (binQ s):=by
  unfold downA
  obtain ⟨f,hf⟩:∃f,B-s.2.1=f+1:=⟨B-s.2.1-1,by omega⟩
  rw [hf]
  simp [downF,h]
 rw [e]
 refine o_11b fun p hp=>?_
 have:=(o_10w _ p hp).2
 unfold downA
 rw [this]
 congr 1
def okT (A B:Nat) (s:St):Prop:=s.1≤A∧s.2.1≤B∧(s.2.2=true→s.2.1=B)
theorem SpOK.down {A B X:Nat}:∀(f:Nat) (s:St),s.2.1+f=B→s.1≤X→(s.2.2=true→s.2.1=B)→SpOK (X*f) (okT A B) (downA A B s)
 | 0,s,hT,hX,hf=>by
  by_cases h:s.1≤A
  ·rw [o_11c h];exact SpOK.sure s ⟨h,by omega,hf⟩ _
  ·rw [o_11d h (by omega)];exact SpOK.sure _ ⟨Nat.le_refl _,by simp only;omega,fun _=>by simp only;omega⟩ _
 | f+1,s,hT,hX,hf=>by
  by_cases h:s.1≤A
  ·rw [o_11c h];exact SpOK.sure s ⟨h,by omega,hf⟩ _
  ·rw [o_11e h (by omega)]
   have hb:=(SpOK.bin s).mono hX fun _ h=>h
   have:=hb.times (f:=X*f) (Q:=okT A B) (next:=downA A B) fun t ht=>SpOK.down f t (by rw [ht.2];simp only;omega) (by omega) (fun h2=>by
    rw [ht.2] at h2
    have:=hf h2
    omega)
   refine this.mono ?_ fun _ h=>h
   rw [Nat.mul_add];omega
def stepT (A B:Nat) (s:St):Sp:=timesQ (downA A B) (eitQ (mkRat 1 (2^s.2.1)) (s.1+1,s.2) s)
theorem SpOK.stepT {A B:Nat} {s:St} (h:okT A B s):SpOK (B+(A+1)*B) (okT A B) (stepT A B s):=by
 obtain ⟨h1,h2,h3⟩:=h
 have he:SpOK B (fun t=>t.1≤A+1∧t.2=s.2) (eitQ (mkRat 1 (2^s.2.1)) (s.1+1,s.2) s):=SpOK.eit ((o_119 _).up h2) ((o_11a _).up h2) ⟨by simp only;omega,rfl⟩ ⟨by omega,rfl⟩
 refine he.times fun t ht=>?_
 refine (SpOK.down (A:=A) (X:=A+1) (B-s.2.1) t (by rw [ht.2];omega) ht.1 (by rw [ht.2];exact h3)).mono (Nat.mul_le_mul_left _ (by omega)) fun _ h=>h
theorem SpOK.of {e:Nat} {P:St→Prop} {next:St→Sp} (hn:∀s,P s→SpOK e P (next s)) {s:St} (hs:P s):∀n,SpOK (n*e) P (ofQ next s n)
 | 0=>SpOK.sure s hs _
 | n+1=>by
  have:=(SpOK.of hn hs n).times hn
  rw [Nat.add_mul,Nat.one_mul]
  exact this
def thinQ (s:St) (n:Nat):Sp:=ofQ binQ s n
theorem SpOK.thin (s:St):∀n,SpOK (n*s.1) (fun t=>t.1≤s.1∧t.2=(s.2.1+n,s.2.2)) (thinQ s n)
 | 0=>SpOK.sure s ⟨Nat.le_refl _,rfl⟩ _
 | n+1=>by
  have:=(SpOK.thin s n).times (f:=s.1) (Q:=fun t=>t.1≤s.1∧t.2=(s.2.1+(n+1),s.2.2)) (next:=binQ) fun t ht=>(SpOK.bin t).mono ht.1 fun u hu=>⟨by omega,by rw [hu.2,ht.2];simp only [Nat.add_assoc]⟩
  rw [Nat.add_mul,Nat.one_mul]
  exact this
def joI (f:Bool) (x:St×Rat) (B:Sp) (out:Sp) (j:Nat):Sp:=(B.take j).foldl (fun out y=>addQ out (x.1.1+y.1.1,x.1.2.1,f) (x.2*y.2)) out
def joO (f:Bool) (A B:Sp) (i:Nat):Sp:=(A.take i).foldl (fun out x=>joI f x B out B.length) []
def joQ (f:Bool) (A B:Sp):Sp:=joO f A B A.length
theorem o_11f (f:Bool) (x:St×Rat) (B out:Sp) (j:Nat) (h:j<B.length):joI f x B out (j+1)=addQ (joI f x B out j) (x.1.1+B[j].1.1,x.1.2.1,f) (x.2*B[j].2):=by
 unfold joI;rw [List.take_add_one,List.getElem?_eq_getElem h,Option.toList,List.foldl_append];rfl
theorem o_11g (f:Bool) (A B:Sp) (i:Nat) (h:i<A.length):joO f A B (i+1)=joI f A[i] B (joO f A B i) B.length:=by
 unfold joO;rw [List.take_add_one,List.getElem?_eq_getElem h,Option.toList,List.foldl_append];rfl
def mgT (A B:Nat) (s o:St):Sp:=timesQ (downA A B) (joQ (s.2.2 || o.2.2) (atQ (thinQ s (o.2.1-s.2.1))) (atQ (thinQ o (s.2.1-o.2.1))))
theorem o_11h (g:St→Rat) (f:Bool) (x:St×Rat) (B:Sp):∀(j:Nat) (out:Sp),j≤B.length→Uq out→Uq (joI f x B out j)∧exQ g (joI f x B out j)=exQ g out+x.2*exQ (fun t=>g (x.1.1+t.1,x.1.2.1,f)) (B.take j)
 | 0,out,_,h=>⟨h,by simp only [joI,List.take_zero,List.foldl_nil,exQ];grind⟩
 | j+1,out,hj,h=>by
  obtain ⟨h1,h2⟩:=o_11h g f x B j out (by omega) h
  rw [o_11f f x B out j (by omega)]
  refine ⟨o_vu h1,?_⟩
  rw [o_vv g _ _ _ h1,h2,List.take_add_one,List.getElem?_eq_getElem (by omega:j<B.length),Option.toList,o_vx]
  simp only [exQ];grind
theorem o_11i (g:St→Rat) (f:Bool) (A B:Sp):∀i,i≤A.length→Uq (joO f A B i)∧exQ g (joO f A B i)=exQ (fun s=>exQ (fun t=>g (s.1+t.1,s.2.1,f)) B) (A.take i)
 | 0,_=>by simp [joO,Uq,exQ]
 | i+1,hi=>by
  obtain ⟨h1,h2⟩:=o_11i g f A B i (by omega)
  rw [o_11g f A B i hi]
  obtain ⟨h3,h4⟩:=o_11h g f A[i] B B.length (joO f A B i) (Nat.le_refl _) h1
  refine ⟨h3,?_⟩
  rw [h4,h2,List.take_length,List.take_add_one,List.getElem?_eq_getElem (by omega:i<A.length),Option.toList,o_vx]
  simp only [exQ];grind
theorem o_11j (g:St→Rat) (f:Bool) (A B:Sp):exQ g (joQ f A B)=exQ (fun s=>exQ (fun t=>g (s.1+t.1,s.2.1,f)) B) A:=by
 have:=(o_11i g f A B A.length (Nat.le_refl _)).2
 rw [List.take_length] at this
 exact this
theorem SpOK.at {e:Nat} {P:St→Prop} {l:Sp} (h:SpOK e P l):SpOK e P (atQ l) where
 uq:=o_w7 h.uq
 one:=by rw [o_w5];exact h.one
 gi:=fun p hp=>h.gi p (List.mem_filter.1 ((o_w4 l).mem_iff.1 hp)).1
 ky:=o_z3 h.ky
theorem SpOK.join {e f:Nat} {P Q R:St→Prop} {A B:Sp} {b:Bool} (hA:SpOK e P A) (hB:SpOK f Q B) (hR:∀s t,P s→Q t→R (s.1+t.1,s.2.1,b)):SpOK (e+f) R (joQ b A B) where
 uq:=(o_11i (fun _=>0) b A B A.length (Nat.le_refl _)).1
 one:=by
  rw [o_11j,o_118 (h:=fun _=>1) fun p _=>hB.one]
  exact hA.one
 gi:=by
  have h1:∀(x:St×Rat),x∈A→∀(j:Nat) (out:Sp),j≤B.length→(∀p∈out,Gi (e+f) p.2)→∀p∈joI b x B out j,Gi (e+f) p.2:=by
   intro x hx j
   induction j with
   | zero=>intro out _ h p hp;exact h p (by simpa [joI] using hp)
   | succ j ih =>
    intro out hj h
    rw [o_11f b x B out j (by omega)]
    exact o_115 (ih out (by omega) h) ((hA.gi x hx).mul (hB.gi _ (List.getElem_mem _)))
  have h2:∀i,i≤A.length→∀p∈joO b A B i,Gi (e+f) p.2:=by
   intro i
   induction i with
   | zero=>intro _ p hp;simp [joO] at hp
   | succ i ih =>
    intro hi
    rw [o_11g b A B i hi]
    exact h1 _ (List.getElem_mem _) _ _ (Nat.le_refl _) (ih (by omega))
  exact h2 _ (Nat.le_refl _)
 ky:=by
  have h1:∀(x:St×Rat),x∈A→∀(j:Nat) (out:Sp),j≤B.length→kyQ R out→kyQ R (joI b x B out j):=by
   intro x hx j
   induction j with
   | zero=>intro out _ h p hp;exact h p (by simpa [joI] using hp)
   | succ j ih =>
    intro out hj h
    rw [o_11f b x B out j (by omega)]
    intro p hp
    rcases o_wi hp with hp | rfl
    ·exact ih out (by omega) h p hp
    ·exact hR _ _ (hA.ky x hx) (hB.ky _ (List.getElem_mem _))
  have h2:∀i,i≤A.length→kyQ R (joO b A B i):=by
   intro i
   induction i with
   | zero=>intro _ p hp;simp [joO] at hp
   | succ i ih =>
    intro hi
    rw [o_11g b A B i hi]
    exact h1 _ (List.getElem_mem _) _ _ (Nat.le_refl _) (ih (by omega))
  exact h2 _ (Nat.le_refl _)
theorem SpOK.mgT {A B:Nat} {s o:St} (hs:okT A B s) (ho:okT A B o):SpOK (B*A+B*A+(A+A)*B) (okT A B) (mgT A B s o):=by
 obtain ⟨s1,s2,s3⟩:=hs
 obtain ⟨o1,o2,o3⟩:=ho
 have ha:=(SpOK.thin s (o.2.1-s.2.1)).at.mono (f:=B*A) (Nat.mul_le_mul (by omega) s1) fun _ h=>h
 have hb:=(SpOK.thin o (s.2.1-o.2.1)).at.mono (f:=B*A) (Nat.mul_le_mul (by omega) o1) fun _ h=>h
 have hj:=ha.join (R:=fun t=>t.1≤A+A∧t.2=(max s.2.1 o.2.1,s.2.2 || o.2.2)) (b:=s.2.2 || o.2.2) hb fun t u ht hu=>⟨by simp only;omega,by simp only [ht.2,Prod.mk.injEq,and_true];omega⟩
 refine hj.times fun t ht=>?_
 refine (SpOK.down (A:=A) (X:=A+A) (B-max s.2.1 o.2.1) t (by rw [ht.2];simp only;omega) ht.1 (by
  rw [ht.2]
  simp only [Bool.or_eq_true]
  rintro (h | h)
  ·have:=s3 h;omega
  ·have:=o3 h;omega)).mono (Nat.mul_le_mul_left _ (by omega)) fun _ h=>h
end
section
open Go.RowKit
def topI (top:Nat) (k:Nat):Rat:=if k=top then 1 else 0
def fulI (s:St):Rat:=if s.2.2 then 1 else 0
abbrev ofZ (top:Nat) (c:Nat→Rat) (n:Nat):Sp:=ofQ (stepQ top c) (0,0,false) n
def lostQ (top:Nat) (c:Nat→Rat):Nat→Rat
 | 0=>0
 | n+1=>lostQ top c n+exQ (plQ (topI top)) (ofZ top c n)
structure ValOK (top:Nat) (c V:Nat→Rat):Prop where
 v0:V 0=0
 step:∀k,k<top→c k*(V (k+1)-V k)=1
 c0:∀k,k<top→0≤c k
 c1:∀k,k<top→c k≤1
section
variable {top:Nat} {c V:Nat→Rat}
theorem okz (top:Nat):okQ top (0,0,false):=⟨Nat.zero_le _,rfl,by simp⟩
theorem o_11k (h:ValOK top c V) (n:Nat):oklQ top (ofZ top c n):=o_wp h.c0 h.c1 (okz top) n
theorem o_11l (n:Nat):ofZ top c (n+1)=timesQ (stepQ top c) (ofZ top c n):=rfl
theorem o_11m (g h:St→Rat):∀l:Sp,exQ (fun t=>g t-h t) l=exQ g l-exQ h l
 | []=>by simp only [exQ];grind
 | p::l=>by simp only [exQ,o_11m g h l];grind
theorem o_11n (g h:St→Rat):∀l:Sp,exQ (fun t=>g t+h t) l=exQ g l+exQ h l
 | []=>by simp only [exQ];grind
 | p::l=>by simp only [exQ,o_11n g h l];grind
theorem o_11o (u:Rat) (g:St→Rat):∀l:Sp,exQ (fun t=>u*g t) l=u*exQ g l
 | []=>by simp only [exQ];grind
 | p::l=>by simp only [exQ,o_11o u g l];grind
theorem o_11p (h:ValOK top c V) (k:Nat) (hk:k≤top):SQ top c V k=V k+1-topI top k:=by
 unfold SQ topI
 by_cases e:k=top
 ·rw [if_pos e,if_pos e,e];grind
 ·rw [if_neg e,if_neg e]
  have:=h.step k (by omega)
  grind
theorem o_11q (h:ValOK top c V) (n:Nat):exQ (plQ V) (ofZ top c (n+1))=exQ (plQ V) (ofZ top c n)+1-exQ (plQ (topI top)) (ofZ top c n):=by
 have h1:=o_wq (top:=top) (c:=c) (0,0,false) n
 rw [o_11l,o_103]
 have e:exQ (plQ (SQ top c V)) (ofZ top c n)=exQ (fun t=>(plQ V t+1)-plQ (topI top) t) (ofZ top c n) :=
  ex_eq (top:=top) (fun s hs=>o_11p h s.1 hs) fun p hp=>(o_11k h n p hp).1.1
 rw [e,o_11m (fun t=>plQ V t+1),o_11n (plQ V) (fun _=>1),h1]
theorem o_11r (h:ValOK top c V):∀n:Nat,exQ (plQ V) (ofZ top c n)+lostQ top c n=(n:Rat)
 | 0=>by
  have e:exQ (plQ V) (ofZ top c 0)=1*V 0+0:=rfl
  rw [e,h.v0,lostQ]
  simp
  grind
 | n+1=>by
  have ih:=o_11r h n
  have e:((n+1:Nat):Rat)=(n:Rat)+1:=by simp
  rw [o_11q h n,lostQ,e,←ih]
  grind
theorem o_11s (h:ValOK top c V) (n:Nat):0≤exQ (plQ (topI top)) (ofZ top c n):=by
 have:=o_wh (g:=fun _=>0) (h:=plQ (topI top)) (top:=top) (fun s _=>by unfold plQ topI;split<;>decide) (o_11k h n)
 rwa [show exQ (fun _=>(0:Rat)) (ofZ top c n)=0 from by
  generalize ofZ top c n=l
  induction l with
  | nil=>rfl
  | cons p l ih=>simp only [exQ,ih];grind] at this
theorem o_11t (h:ValOK top c V):∀n,0≤lostQ top c n
 | 0=>Rat.le_refl
 | n+1=>by
  have h1:=o_11t h n
  have h2:=o_11s h n
  rw [lostQ];grind
end
end
section
open Go.RowKit
theorem o_11u {g h:St→Rat}:∀{l:Sp},(∀p∈l,0≤p.2∧g p.1≤h p.1)→exQ g l≤exQ h l
 | [],_=>Rat.le_refl
 | p::l,hl=>by
  have h1:=o_11u (l:=l) (g:=g) (h:=h) fun q hq=>hl q (by simp [hq])
  obtain ⟨h2,h3⟩:=hl p (by simp)
  have:=Rat.mul_le_mul_of_nonneg_left h3 h2
  simp only [exQ];grind
section
variable {V:St→Rat} {l:Sp} (h0:∀p∈l,0≤p.2)
 include h0
end
end
section
open Go.RowKit
theorem Gr.scale {D B:Nat} {q:Rat} (E:Nat) (h:Gr D B q):Gr (D*E) B q:=by
 obtain ⟨z,h1,h2⟩:=h
 refine ⟨z*E,?_,?_⟩
 ·have e1:((z*E:Nat):Rat)=(z:Rat)*(E:Rat):=by simp
  have e2:((D*E:Nat):Rat)=(D:Rat)*(E:Rat):=by simp
  rw [e1,e2,←h1];grind
 ·rw [←Nat.mul_assoc];exact Nat.mul_le_mul_right _ h2
end
section
open Go.RowKit
end
section
open Go.RowKit
theorem o_11v (n:Nat) (h0:0<n) (hn:n≤100000):Eqn Tryz.prog o_dv [.d .nilsl,.d (.int .i64 n)] [] (.own 0 6 0) [⟨75,[]⟩]:=by
 refine Eqn.gen [0] o_dx (by simp) (by simp) (by rfl) (by decide) (by simp) (by simp) ?_
 refine cc (c':=?z276) ?_ ?_
 case refine_1=>cbv<;>exact rfl
 have g1:¬(n:Int)<0:=by omega
 have g2:(0:Int)<n:=by omega
 have e0:IntKind.i64.wrap 0=0:=w64 (by omega) (by omega)
 have e1:IntKind.i64.wrap (0-0)=0:=w64 (by omega) (by omega)
 have e2:IntKind.i64.wrap ((n:Int)-0)=n:=by rw [w64 (by omega) (by omega)];omega
 have e3:IntKind.i64.wrap (n:Int)=n:=w64 (by omega) (by omega)
 refine A10 (fs g1 (fs g2 (fs h0 (fs e0 (fs e1 (fs e2 e3)))))) ?_;try with_reducible exact tt
theorem o_11w (la lb:Nat) (A B:List D) (ha:A.length=la*6) (hb:B.length=lb*6) (h0:0<la) (h1:0<lb) (hla:la≤1000) (hlb:lb≤1000):Eqn Tryz.prog o_au [.d (.sl 2 [.sl la A,.sl lb B])] [] (.own 0 6 (la+lb)) [⟨75,(A++B).map .d⟩]:=by
 refine Eqn.gen [2] o_aw (by simp) (by simp) (by rfl) (by decide) (by simp) (by intro ob h;simp only [List.mem_singleton] at h;subst h;exact o_61 _ _) ?_
 refine cc (c':=?z277) ?_ ?_
 case refine_1=>cbv<;>exact rfl
 have hg:=o_11v (la+lb) (by omega) (by omega)
 have e1:IntKind.i64.wrap (0+(la:Int))=la:=by rw [w64 (by omega) (by omega)];omega
 have e1':IntKind.i64.wrap (la:Int)=la:=w64 (by omega) (by omega)
 have e2:IntKind.i64.wrap ((la:Int)+lb)=((la+lb:Nat):Int):=by rw [w64 (by omega) (by omega)];omega
 have g1:¬(la:Int)<0:=by omega
 have g2:¬((la+lb:Nat):Int)<0:=by omega
 have l0:la≠0:=by omega
 have l1:lb≠0:=by omega
 obtain ⟨n,hn⟩:∃n,n=la+lb:=⟨_,rfl⟩
 rw [←hn] at hg e2 g2 ⊢
 have w1:IntKind.i64.wrap (0+1)=1:=by decide
 have w2:IntKind.i64.wrap (1+1)=2:=by decide
 refine A00 ?_;try with_reducible exact tt
 refine AW.rounds 3 ?_
 refine A10 (fs e1 (fs e1' (fs e2 (fs g1 (fs g2 (fs w1 w2)))))) ?_;try with_reducible exact tt
 refine CallS.nX (hg) (hO':=o_5l []) (R0 ?_);try with_reducible exact tt
 refine AW.rounds 3 ?_
 refine A10 (fs ha (fs hb (fs l0 (fs l1 (fs w1 w2))))) ?_;try with_reducible exact tt
 first
 | (refine ⟨by rw [hn];exact Sub1.refl _,Subs.of ?_⟩;rw [←List.map_append,o_60])
 | (rw [hn];exact Sub1.refl _)
end
section
open Go.RowKit
def inG (mg:St→St→Sp) (x:St×Rat) (B:Sp) (out:Sp) (j:Nat):Sp:=(B.take j).foldl (fun out y=>innQ (x.2*y.2) out (atQ (mg x.1 y.1))) out
def outG (mg:St→St→Sp) (A B:Sp) (i:Nat):Sp:=(A.take i).foldl (fun out x=>B.foldl (fun out y=>innQ (x.2*y.2) out (atQ (mg x.1 y.1))) out) []
def mrgG (mg:St→St→Sp) (A B:Sp):Sp:=A.foldl (fun out x=>B.foldl (fun out y=>innQ (x.2*y.2) out (atQ (mg x.1 y.1))) out) []
theorem o_11x (mg:St→St→Sp) (x:St×Rat) (B out:Sp) (j:Nat) (h:j<B.length):inG mg x B out (j+1)=innQ (x.2*B[j].2) (inG mg x B out j) (atQ (mg x.1 B[j].1)):=by
 unfold inG;rw [List.take_add_one,List.getElem?_eq_getElem h,Option.toList,List.foldl_append];rfl
theorem o_11y (mg:St→St→Sp) (x:St×Rat) (B out:Sp):inG mg x B out B.length=B.foldl (fun out y=>innQ (x.2*y.2) out (atQ (mg x.1 y.1))) out:=by unfold inG;rw [List.take_length]
theorem o_11z (mg:St→St→Sp) (A B:Sp) (i:Nat) (h:i<A.length):outG mg A B (i+1)=inG mg A[i] B (outG mg A B i) B.length:=by
 rw [o_11y]
 unfold outG;rw [List.take_add_one,List.getElem?_eq_getElem h,Option.toList,List.foldl_append];rfl
theorem o_120 (mg:St→St→Sp) (A B:Sp):outG mg A B A.length=mrgG mg A B:=by unfold outG mrgG;rw [List.take_length]
theorem o_121 {mg:St→St→Sp} {D C M J:Nat} {x:St×Rat} {B out:Sp} (ho:∀p∈out,Gr D C p.2) (hB:∀y∈B,(∀p∈atQ (mg x.1 y.1),Gr D M (x.2*y.2*p.2))∧(atQ (mg x.1 y.1)).length≤J):∀j,j≤B.length→∀p∈inG mg x B out j,Gr D (C+j*J*M) p.2
 | 0,_=>fun p hp=>by
  simp [inG] at hp
  exact (ho p hp).le (by omega)
 | j+1,hj=>by
  have hj':j<B.length:=hj
  rw [o_11x mg x B out j hj']
  obtain ⟨h1,h2⟩:=hB B[j] (List.getElem_mem hj')
  intro p hp
  refine (o_yo (o_121 ho hB j (by omega)) _ h1 p hp).le ?_
  have:=Nat.mul_le_mul_right M h2
  have e:(j+1)*J*M=j*J*M+J*M:=by rw [Nat.add_mul j 1 J,Nat.one_mul,Nat.add_mul]
  omega
theorem o_122 {mg:St→St→Sp} {D M J L:Nat} {A B:Sp} (hBL:B.length≤L) (hAB:∀x∈A,∀y∈B,(∀p∈atQ (mg x.1 y.1),Gr D M (x.2*y.2*p.2))∧(atQ (mg x.1 y.1)).length≤J):∀i,i≤A.length→∀p∈outG mg A B i,Gr D (i*(L*J)*M) p.2
 | 0,_=>fun p hp=>by simp [outG] at hp
 | i+1,hi=>by
  have hi':i<A.length:=hi
  rw [o_11z mg A B i hi']
  intro p hp
  refine (o_121 (o_122 hBL hAB i (by omega)) (hAB A[i] (List.getElem_mem hi')) B.length (Nat.le_refl _) p hp).le ?_
  have h1:=Nat.mul_le_mul_right M (Nat.mul_le_mul_right J hBL)
  have e:(i+1)*(L*J)*M=i*(L*J)*M+L*J*M:=by rw [Nat.add_mul i 1 (L*J),Nat.one_mul,Nat.add_mul]
  omega
structure MrgOK (k a w:Nat) (mg:St→St→Sp) (A B:Sp) (D M J L:Nat):Prop where
 dp:0<D
 mp:1≤M
 jp:1≤J
 lp:1≤L
 j2:J≤1000
 a1:1≤A.length
 a2:A.length≤1000
 b1:1≤B.length
 b2:B.length≤L
 l2:L≤1000
 xs:∀x∈A,0≤x.2∧RS x.2 40000
 ys:∀y∈B,0≤y.2∧RS y.2 40000
 gr:∀x∈A,∀y∈B,(∀p∈atQ (mg x.1 y.1),Gr D M (x.2*y.2*p.2))∧(atQ (mg x.1 y.1)).length≤J
 rs:∀x∈A,∀y∈B,∀p∈atQ (mg x.1 y.1),RS p.2 100000
 sz:size ((A.length+2)*(L*J)*M*D)≤100000
 cost:Eqn Tryz.prog o_89 [.d (parD k a w),.d (.sl (A.length+B.length) (stsD ((A++B).map (·.1))))] [] (.d (.int .i64 0)) []
 call:∀x∈A,∀y∈B,Eqn Tryz.prog o_8x [.d (parD k a w),.d (.agg (stD x.1)),.d (.agg (stD y.1))] [] (.mp 0) [spO (mg x.1 y.1)]∧Eqn Tryz.prog o_8f [.mp 0] [spO (mg x.1 y.1)] (.d (.sl (atQ (mg x.1 y.1)).length (spD rcD (atQ (mg x.1 y.1))))) [spO (mg x.1 y.1)]
 out:Eqn Tryz.prog o_8f [.mp 0] [spO (mrgG mg A B)] (.d (.sl (atQ (mrgG mg A B)).length (spD rcD (atQ (mrgG mg A B))))) [spO (mrgG mg A B)]
def slC (la lb:Nat) (A B C:List D) (n i:Nat):List V:=setS (List.replicate 100 .junk) [(1,.d (.sl la A)),(2,.d (.sl lb B)),(3,.p 0 0),(8,if i=0 then .d .nilsl else .own 1 3 i),(9,.d (.bool false)),(23,.d (.sl n C)),(24,.d (.int .i64 n)),(25,.d (.int .i64 (i:Nat)))]
def hpC (k a w:Nat) (S:List St) (i:Nat):List (Option Ob):=[some ⟨62,[.d (.int .i64 k),.d (.int .i64 a),.d (.int .i64 w)]⟩]++if i=0 then [] else [some ⟨64,(stsD (S.take i)).map .d⟩]
theorem o_123 (S:List St) (i:Nat) (h:i<S.length):stsD (S.take (i+1))=stsD (S.take i)++stD S[i]:=by
 unfold stsD;rw [List.take_add_one,List.getElem?_eq_getElem h,Option.toList,List.flatMap_append];simp
theorem o_124 {x:Rat} (h:0≤x):¬cmpQ x 0<0:=by
 unfold cmpQ
 rw [if_neg (Rat.not_lt.2 h)]
 split<;>decide
set_option maxHeartbeats 4000000 in
theorem o_125 {k a w:Nat} {mg:St→St→Sp} {A B:Sp} {G M J L:Nat} (h:MrgOK k a w mg A B G M J L):Eqn Tryz.prog o_7o [.d (parD k a w),.d (.sl A.length (spD rcD A)),.d (.sl B.length (spD rcD B))] [] (.tup [.d (.sl (atQ (mrgG mg A B)).length (spD rcD (atQ (mrgG mg A B)))),.d (.int .i64 0)]) []:=by
 refine Eqn.pure o_7q Plain.ok ?_
 have ha:=o_vm rcD (fun _=>rfl) A
 have hb:=o_vm rcD (fun _=>rfl) B
 have hcon:=o_11w A.length B.length (spD rcD A) (spD rcD B) ha hb h.a1 h.b1 h.a2 (Nat.le_trans h.b2 h.l2)
 have hAB:spD rcD A++spD rcD B=spD rcD (A++B):=by simp [spD]
 rw [hAB] at hcon
 have hc:=o_vm rcD (fun _=>rfl) (A++B)
 have hcl:(A++B).length=A.length+B.length:=List.length_append
 have hget:=o_yv (A++B)
 have hgA:=o_yv A
 have hgB:=o_yv B
 have hA2:=h.a2
 have hB2:=h.b2
 have hL2:=h.l2
 have hJ2:=h.j2
 have hout:=h.out
 have hgo:=o_122 h.b2 h.gr
 have hnn:∀p∈A++B,0≤p.2∧RS p.2 40000:=fun p hp=>by
  rcases List.mem_append.1 hp with hp | hp
  ·exact h.xs p hp
  ·exact h.ys p hp
 have hcost:=h.cost
 have hn1:A.length+B.length≤2000:=by have:=h.a2;have:=h.b2;have:=h.l2;omega
 have hsl:((A++B).map (·.1)).length=(A++B).length:=List.length_map _
 have hsg:∀i (hi:i<(A++B).length),((A++B).map (·.1))[i]'(by rw [hsl];exact hi)=(A++B)[i].1:=fun i hi=>List.getElem_map _
 have hsn:=o_123 ((A++B).map (·.1))
 have hsll:=fun i=>o_107 (((A++B).map (·.1)).take i)
 rw [←hcl] at hcon hcost hn1
 generalize hSS:(A++B).map (·.1)=S at *
 generalize hBB:A++B=AB at *
 generalize spD rcD A=CA at *
 generalize spD rcD B=CB at *
 obtain ⟨n,hn⟩:∃n,n=AB.length:=⟨_,rfl⟩
 rw [←hn] at hcon hcost hn1 hc hcl hsl
 have htk:(spD rcD AB).take (n*6)=spD rcD AB:=List.take_of_length_le (by omega)
 refine cc (c':=?z278) ?_ ?_
 case refine_1=>cbv<;>exact rfl
 try simp only [parD] at hcost ⊢
 refine A00 ?_;try with_reducible exact tt
 refine CallS.gf 1 1 ⟨_,[.d (.sl A.length CA),.d (.sl B.length CB)]⟩ [.sl A.length CA,.sl B.length CB] [] (hcon) (R0 ?_);try with_reducible exact tt
 refine AW.freeze 2 6 ⟨75,(spD rcD AB).map .d⟩ (spD rcD AB) (by simp) rfl ?_
 simp [frzH,htk]
 refine AW.loopG (α:=Nat) (fun i=>slC A.length B.length CA CB (spD rcD AB) n i) (fun i=>hpC k a w S i) (fun i=>i≤n) (fun i=>n-i) 0 ?_ (Nat.zero_le _) ?_ ?_ ?_
 ·intro i hi;unfold hpC;split<;>simp
 ·simp [slC,hpC]
 ·simp [hpC]
 rintro i hi
 by_cases hi2:i<n
 ·have hi3:(i:Int)<n:=by omega
  obtain ⟨s1,s2,s3,q,N1,N2,N3,hp,hN,hg⟩:=hget i (by omega)
  obtain ⟨hq0,hqr⟩:=hnn _ (List.getElem_mem (by omega:i<AB.length))
  rw [hp] at hq0 hqr
  have hsi:=hsn i (by omega)
  rw [hsg i (by omega),hp] at hsi
  have hlen:=hsll i
  rw [List.length_take,Nat.min_eq_left (by omega)] at hlen
  have ho:=rof0
  have hcm:=o_p3 q 0 (hqr.le (by omega)) ⟨by decide,by decide⟩
  have hcn:=o_124 hq0
  generalize cmpQ q 0=z at *
  have hz0:rcD 0=[natW 0,.bool false,natW 0]:=rfl
  rw [o_wt,o_wt,hN] at hcm
  rw [o_wt] at ho
  rw [hz0] at hcm ho
  have ew:IntKind.i64.wrap ((i:Int)+1)=((i+1:Nat):Int):=by rw [w64 (by omega) (by omega)];omega
  have hb6:i*6+6≤n*6:=by omega
  have hb7:i*6<n*6:=by omega
  have ht3:(stsD (S.take i)).length=i*3:=hlen
  by_cases h0:i=0
  ·subst h0
   simp only [slC,hpC,if_true]
   simp only [Nat.zero_mul,List.drop_zero] at hg
   simp
   refine A12 (fs hi2 (fs hi3 (fs hg (fs hc (fs hb6 (fs hb7 (fs ew hcn))))))) ho hcm ?_;try with_reducible exact tt
   refine ⟨1,1,3,⟨by omega,by omega⟩,by omega,by omega,?_,?_⟩
   ·simp [slC,hpC,swT,swH,sw,Ob.sw,V.ren,V.rens]
   ·rw [hsi]
    simp [slC,hpC,swT,swH,sw,Ob.sw,V.ren,V.rens,stsD,stD]
  ·have hcs:([.int .i64 s1,.int .i64 s2,.bool s3]:List D).map V.d=[.d (.int .i64 s1),.d (.int .i64 s2),.d (.bool s3)]:=rfl
   simp only [slC,hpC,if_neg h0]
   simp
   refine A12 (fs hi2 (fs hi3 (fs hg (fs hc (fs hb6 (fs hb7 (fs ew (fs hcn (fs ht3 h0))))))))) ho hcm ?_;try with_reducible exact tt
   refine ⟨i+1,1,4,⟨by omega,by omega⟩,by omega,by omega,?_,?_⟩
   ·simp [slC,hpC,swT,swH,sw,Ob.sw,V.ren,V.rens]
   ·rw [hsi]
    simp [slC,hpC,swT,swH,sw,Ob.sw,V.ren,V.rens,stD]
    all_goals (rw [←hcs,←List.map_append,o_60];exact ⟨Subs.refl _,o_61 _ _⟩)
 ·have h2:i=n:=by omega
  subst h2
  have h0:¬i=0:=by have:=h.a1;omega
  have hSt:S.take i=S:=List.take_of_length_le (by omega)
  have hsl3:=o_107 S
  have htk3:(stsD S).take (i*3)=stsD S:=List.take_of_length_le (by omega)
  simp only [slC,hpC,if_neg h0,hSt]
  simp
  refine AW.freeze 1 3 ⟨64,(stsD S).map .d⟩ (stsD S) (by simp) rfl ?_
  simp [frzH,htk3]
  refine A01 hcost ?_;try with_reducible exact tt
  rw [←o_120] at hout ⊢
  refine AW.loopG (α:=Nat) (fun j=>setS (List.replicate 100 .junk) [(1,.d (.sl A.length CA)),(2,.d (.sl B.length CB)),(3,.p 0 0),(13,.mp 2),(59,.d (.sl A.length CA)),(60,.d (.int .i64 A.length)),(61,.d (.int .i64 (j:Nat)))]) (fun j=>[some ⟨62,[.d (.int .i64 k),.d (.int .i64 a),.d (.int .i64 w)]⟩,none,some ⟨1000391,(spD rcD (outG mg A B j)).map .d⟩]) (fun j=>j≤A.length) (fun j=>A.length-j) 0 ?_ (Nat.zero_le _) ?_ ?_ ?_
  ·intro i hi;simp
  ·simp
  ·simp [outG,spD]
  clear hget hcon hcost hnn hsl hsg hsn hsll hSt hsl3 htk3 htk hc hBB hSS
  rintro u hu
  simp
  by_cases hu2:u<A.length
  ·have hu3:(u:Int)<A.length:=by omega
   obtain ⟨x1,x2,x3,xq,X1,X2,X3,hpx,hX,hgx⟩:=hgA u hu2
   have hxm:((x1,x2,x3),xq)∈A:=by rw [←hpx];exact List.getElem_mem hu2
   have hxr:=(h.xs _ hxm).2
   have hgou:=hgo u hu
   have hon:=o_11z mg A B u hu2
   rw [hpx] at hon
   have hx6:u*6+6≤A.length*6:=by omega
   have hx7:u*6<A.length*6:=by omega
   have ewu:IntKind.i64.wrap ((u:Int)+1)=((u+1:Nat):Int):=by rw [w64 (by omega) (by omega)];omega
   refine A10 (fs hu2 (fs hu3 (fs hgx (fs ha (fs hx6 hx7))))) ?_;try with_reducible exact tt
   refine AW.loopG (α:=Nat) (fun j=>setS (List.replicate 100 .junk) [(1,.d (.sl A.length CA)),(2,.d (.sl B.length CB)),(3,.p 0 0),(13,.mp 2),(15,.p 3 0),(59,.d (.sl A.length CA)),(60,.d (.int .i64 A.length)),(61,.d (.int .i64 (u:Nat))),(65,.d (.sl B.length CB)),(66,.d (.int .i64 B.length)),(67,.d (.int .i64 (j:Nat)))]) (fun j=>[some ⟨62,[.d (.int .i64 k),.d (.int .i64 a),.d (.int .i64 w)]⟩,none,some ⟨1000391,(spD rcD (inG mg ((x1,x2,x3),xq) B (outG mg A B u) j)).map .d⟩,some ⟨75,[.d (.int .i64 x1),.d (.int .i64 x2),.d (.bool x3),.d X1,.d X2,.d X3]⟩]) (fun j=>j≤B.length) (fun j=>B.length-j) 0 ?_ (Nat.zero_le _) ?_ ?_ ?_
   ·intro i hi;simp
   ·simp
   ·simp [inG]
   rintro v hv
   simp
   by_cases hv2:v<B.length
   ·have hv3:(v:Int)<B.length:=by omega
    obtain ⟨y1,y2,y3,yq,Y1,Y2,Y3,hpy,hY,hgy⟩:=hgB v hv2
    have hym:((y1,y2,y3),yq)∈B:=by rw [←hpy];exact List.getElem_mem hv2
    have hyr:=(h.ys _ hym).2
    obtain ⟨hme,hat⟩:=h.call _ hxm _ hym
    obtain ⟨hgC,hJ⟩:=h.gr _ hxm _ hym
    have hrC:=h.rs _ hxm _ hym
    have hin:=o_121 hgou (fun y hy=>h.gr _ hxm y hy) v hv
    have hon2:=o_11x mg ((x1,x2,x3),xq) B (outG mg A B u) v hv2
    rw [hpy] at hon2
    simp only at hme hat hgC hJ hrC hon2
    have hy6:v*6+6≤B.length*6:=by omega
    have hy7:v*6<B.length*6:=by omega
    have ewv:IntKind.i64.wrap ((v:Int)+1)=((v+1:Nat):Int):=by rw [w64 (by omega) (by omega)];omega
    have hq:=o_p0 xq yq (hxr.le (by omega)) (hyr.le (by omega))
    have hqr:=(RS.mul hxr hyr).le (M:=100000) (by omega)
    obtain ⟨C,hC⟩:∃C,C=atQ (mg (x1,x2,x3) (y1,y2,y3)):=⟨_,rfl⟩
    rw [←hC] at hat hgC hJ hrC hon2
    have hCl:=o_vm rcD (fun _=>rfl) C
    have hgetC:=o_yv C
    have hJ1:u*(L*J)*M+v*J*M+J*M≤(A.length+2)*(L*J)*M:=by
     have k1:v*J≤L*J:=Nat.mul_le_mul_right J (by omega)
     have k2:J≤L*J:=Nat.le_mul_of_pos_left J h.lp
     have k3:=Nat.mul_le_mul_right M k1
     have k4:=Nat.mul_le_mul_right M k2
     have k5:u*(L*J)*M≤A.length*(L*J)*M:=Nat.mul_le_mul_right M (Nat.mul_le_mul_right _ hu)
     have k6:(A.length+2)*(L*J)*M=A.length*(L*J)*M+2*(L*J*M):=by rw [Nat.add_mul A.length 2,Nat.add_mul,Nat.mul_assoc 2]
     rw [k6]
     omega
    have hCAP:1≤(A.length+2)*(L*J)*M:=Nat.mul_pos (Nat.mul_pos (by omega) (Nat.mul_pos h.lp h.jp)) h.mp
    have hM1:M≤(A.length+2)*(L*J)*M:=Nat.le_mul_of_pos_left M (Nat.mul_pos (by omega) (Nat.mul_pos h.lp h.jp))
    have hsz:=h.sz
    generalize (A.length+2)*(L*J)*M=CAP at *
    simp only [spO,stD,parD] at hme hat
    rw [o_wt xq,o_wt yq,hX,hY,o_wt] at hq
    obtain ⟨Q1,Q2,Q3,hQ⟩:∃Q1 Q2 Q3,rcD (xq*yq)=[Q1,Q2,Q3]:=⟨_,_,_,rfl⟩
    rw [hQ] at hq
    refine A10 (fs hv2 (fs hv3 (fs hgy (fs hb (fs hy6 hy7))))) ?_;try with_reducible exact tt
    refine CallS.nX (hme) (R0 ?_);try with_reducible exact tt
    refine CallS.g [5] (hat) (R0 ?_);try with_reducible exact tt
    refine AW.loopG (α:=Nat) (fun j=>setS (List.replicate 100 .junk) [(1,.d (.sl A.length CA)),(2,.d (.sl B.length CB)),(3,.p 0 0),(13,.mp 2),(15,.p 3 0),(17,.p 4 0),(59,.d (.sl A.length CA)),(60,.d (.int .i64 A.length)),(61,.d (.int .i64 (u:Nat))),(65,.d (.sl B.length CB)),(66,.d (.int .i64 B.length)),(67,.d (.int .i64 (v:Nat))),(77,.d (.sl C.length (spD rcD C))),(78,.d (.int .i64 C.length)),(79,.d (.int .i64 (j:Nat)))]) (fun j=>[some ⟨62,[.d (.int .i64 k),.d (.int .i64 a),.d (.int .i64 w)]⟩,none,some ⟨1000391,(spD rcD (innQ (xq*yq) (inG mg ((x1,x2,x3),xq) B (outG mg A B u) v) (C.take j))).map .d⟩,some ⟨75,[.d (.int .i64 x1),.d (.int .i64 x2),.d (.bool x3),.d X1,.d X2,.d X3]⟩,some ⟨75,[.d (.int .i64 y1),.d (.int .i64 y2),.d (.bool y3),.d Y1,.d Y2,.d Y3]⟩]) (fun j=>j≤C.length) (fun j=>C.length-j) 0 ?_ (Nat.zero_le _) ?_ ?_ ?_
    ·intro i hi;simp
    ·simp
    ·simp [innQ]
    rintro j hj
    simp
    by_cases hj2:j<C.length
    ·have hj3:(j:Int)<C.length:=by omega
     obtain ⟨t1,t2,t3,r,M1,M2,M3,hpc,hMM,hgc⟩:=hgetC j hj2
     have hinn:=o_yk (xq*yq) (inG mg ((x1,x2,x3),xq) B (outG mg A B u) v) C j hj2
     have hgr:=hgC _ (List.getElem_mem hj2)
     have hrr:=hrC _ (List.getElem_mem hj2)
     rw [hpc] at hinn hgr hrr
     simp only at hinn hgr hrr
     have hgi:=o_yo (q:=xq*yq) hin (C.take j) (fun p hp=>hgC p (List.mem_of_mem_take hp))
     have hget2:=(o_yn hgi (t1,t2,t3)).le (C:=CAP) (by
      have e1:(C.take j).length*M≤J*M:=Nat.mul_le_mul_right M (by rw [List.length_take];omega)
      omega)
     have hmul:=o_p0 r (xq*yq) hrr hqr
     rw [Rat.mul_comm r] at hmul
     have hadd:=o_ww (innQ (xq*yq) (inG mg ((x1,x2,x3),xq) B (outG mg A B u) v) (C.take j)) (t1,t2,t3) (xq*yq*r) (hget2.rs h.dp hCAP hsz) ((hgr.le hM1).rs h.dp hCAP hsz)
     have ewj:IntKind.i64.wrap ((j:Int)+1)=((j+1:Nat):Int):=by rw [w64 (by omega) (by omega)];omega
     have hc6:j*6+6≤C.length*6:=by omega
     have hc7:j*6<C.length*6:=by omega
     rw [←hinn] at hadd
     rw [o_wt r,o_wt (xq*yq),o_wt (xq*yq*r),hQ,hMM] at hmul
     rw [o_wt (xq*yq*r)] at hadd
     obtain ⟨P1,P2,P3,hP⟩:∃P1 P2 P3,rcD (xq*yq*r)=[P1,P2,P3]:=⟨_,_,_,rfl⟩
     rw [hP] at hmul hadd
     simp only [spO,stD] at hadd
     refine A12 (fs hj2 (fs hj3 (fs hgc (fs hCl (fs hc6 hc7))))) hq hmul ?_;try with_reducible exact tt
     refine CallS.g [2] (hadd) (R0 ?_);try with_reducible exact tt
     refine A10 ewj ?_;try with_reducible exact tt
     refine ⟨j+1,2,2,⟨by omega,by omega⟩,by omega,by omega,?_,?_⟩
     ·simp [swT,swH,sw,Ob.sw,V.ren,V.rens]
     ·simp [swT,swH,sw,Ob.sw,V.ren,V.rens]
    ·have h2:j=C.length:=by omega
     subst h2
     rw [List.take_length,←hon2]
     refine A10 ewv ?_;try with_reducible exact tt
     refine ⟨v+1,2,2,⟨by omega,by omega⟩,by omega,by omega,?_,?_⟩
     ·simp [swT,swH,sw,Ob.sw,V.ren,V.rens]
     ·simp [swT,swH,sw,Ob.sw,V.ren,V.rens]
   ·have h2:v=B.length:=by omega
    subst h2
    rw [←hon]
    refine A10 ewu ?_;try with_reducible exact tt
    refine ⟨u+1,2,2,⟨by omega,by omega⟩,by omega,by omega,?_,?_⟩
    ·simp [swT,swH,sw,Ob.sw,V.ren,V.rens]
    ·simp [swT,swH,sw,Ob.sw,V.ren,V.rens]
  ·have h2:u=A.length:=by omega
   subst h2
   simp only [spO] at hout
   refine A00 ?_;try with_reducible exact tt
   refine CallS.g [2] (hout) (R0 ?_);try with_reducible exact tt
   done
end
section
open Go.RowKit
theorem wellQ {k a w:Nat} (h:GoodS k a w) {t:St} (ht:okQ (topC w) t):WellR k a w t.1 t.2.1 t.2.2:=.inr ⟨by have:=h.1;omega,ht.2.1,ht.1,ht.2.2⟩
end
section
open Go.RowKit
theorem o_126 (g:St→Rat) (p:St×Rat):∀l:Sp,exQ g (l++[p])=exQ g l+p.2*g p.1
 | []=>by simp [exQ,Rat.add_zero,Rat.zero_add]
 | x::l=>by
  rw [List.cons_append,exQ,exQ,o_126 g p l,Rat.add_assoc]
def sumQ (g:St→Rat) (L:Sp) (i:Nat):Rat:=exQ g (L.take i)
theorem o_127 (g:St→Rat) (L:Sp) (i:Nat) (h:i<L.length):sumQ g L (i+1)=sumQ g L i+L[i].2*g L[i].1:=by
 unfold sumQ
 rw [List.take_add_one,List.getElem?_eq_getElem h,Option.toList,o_126]
theorem o_128 (g:St→Rat) (L:Sp):sumQ g L L.length=exQ g L:=by unfold sumQ;rw [List.take_length]

theorem o_129:rD 0 = .agg [natW 0,.bool false,natW 0]:=by rfl
theorem sub_zero:Sub1 (.d (.agg [.nilsl,.bool false,.nilsl])) (.d (rD 0)):=by
 rw [o_129]
 exact Sub1.aggd (Subs.cons Sub1.nil (Subs.cons (Sub1.refl _) (Subs.cons Sub1.nil (Subs.refl _))))
theorem o_12a (b:Bool):Eqn Tryz.prog o_9o [.d (.bool b)] [] (.d (rD (if b then 1 else 0))) []:=by
 refine Eqn.pure o_9q Plain.ok ?_
 have ho:=rof1
 refine cc (c':=?z279) ?_ ?_
 case refine_1=>cbv<;>exact rfl
 obtain ⟨O1,O2,O3,hO⟩:∃O1 O2 O3,rD 1 = .agg [O1,O2,O3]:=⟨_,_,_,rfl⟩
 cases b with
 | true =>
  simp only [if_true,hO] at ho ⊢
  refine A00 ?_;try with_reducible exact tt
  refine CallS.pu (ho) (R0 ?_);try with_reducible exact tt
 | false =>
  rw [if_neg (by decide)]
  refine A00 ?_;try with_reducible exact tt
  exact sub_zero
theorem o_12b (s:St) (v:Rat):Eqn Tryz.prog o_9f [.d (.agg (stD s)),.d (rD v)] [] (.d (rD v)) []:=by
 refine Eqn.pure o_9h Plain.ok ?_
 refine cc (c':=?z280) ?_ ?_
 case refine_1=>cbv<;>exact rfl
 try simp only [stD,rD]
 refine A00 ?_;try with_reducible exact tt
theorem o_12c (s:St) (v:Rat) (hv:RS v 100000):Eqn Tryz.prog o_9i [.d (.agg (stD s)),.d (rD v)] [] (.d (rD (v*v))) []:=by
 refine Eqn.pure o_9k Plain.ok ?_
 have hm:=o_p0 v v hv hv
 obtain ⟨V1,V2,V3,hV⟩:∃V1 V2 V3,rD v = .agg [V1,V2,V3]:=⟨_,_,_,rfl⟩
 obtain ⟨O1,O2,O3,hO⟩:∃O1 O2 O3,rD (v*v) = .agg [O1,O2,O3]:=⟨_,_,_,rfl⟩
 rw [hV,hO] at hm
 refine cc (c':=?z281) ?_ ?_
 case refine_1=>cbv<;>exact rfl
 try simp only [stD,hV,hO]
 refine A00 ?_;try with_reducible exact tt
 refine CallS.pu (hm) (R0 ?_);try with_reducible exact tt
theorem o_12d (s:St) (v:Rat):Eqn Tryz.prog o_9l [.d (.agg (stD s)),.d (rD v)] [] (.d (rD (if s.2.2 then 1 else 0))) []:=by
 refine Eqn.pure o_9n Plain.ok ?_
 have hm:=o_12a s.2.2
 obtain ⟨V1,V2,V3,hV⟩:∃V1 V2 V3,rD v = .agg [V1,V2,V3]:=⟨_,_,_,rfl⟩
 obtain ⟨O1,O2,O3,hO⟩:∃O1 O2 O3,rD (if s.2.2 then 1 else 0) = .agg [O1,O2,O3]:=⟨_,_,_,rfl⟩
 rw [hO] at hm
 refine cc (c':=?z282) ?_ ?_
 case refine_1=>cbv<;>exact rfl
 try simp only [stD,hV,hO]
 refine A00 ?_;try with_reducible exact tt
 refine CallS.pu (hm) (R0 ?_);try with_reducible exact tt
end
section
open Go.RowKit
set_option maxHeartbeats 4000000 in
theorem o_12e {f:FuncId} {W:St→Rat} {k a w:Nat} (h:GoodR k a w) (L:Sp) (hl:L.length≤1000000) (hw:∀p∈L,WellR k a w p.1.1 p.1.2.1 p.1.2.2) (hf:∀p∈L,Eqn Tryz.prog f [.d (.agg (stD p.1)),.d (rD (valR k a w p.1.1 p.1.2.1))] [] (.d (rD (W p.1))) []) (hrs:∀p∈L,RS p.2 100000∧RS (W p.1) 100000∧RS (p.2*W p.1) 100000) (hsum:∀i,i≤L.length→RS (sumQ W L i) 100000) :
  Eqn Tryz.prog o_9c [.d (parD k a w),.d (.sl L.length (spD rcD L)),.fn (.func f) []] [] (.tup [.d (rD (exQ W L)),.d (.int .i64 0)]) []:=by
 refine Eqn.pure o_9e (o_kw _ _) ?_
 have hch:=o_s4 h
 have hLl:=o_vm rcD (fun _=>rfl) L
 have hget:=o_yv L
 have hz:rcD (sumQ W L 0)=[natW 0,.bool false,natW 0]:=by rfl
 rw [←o_128 W L]
 refine cc (c':=?z283) ?_ ?_
 case refine_1=>cbv<;>exact rfl
 try simp only [parD] at hch ⊢
 refine A00 ?_;try with_reducible exact tt
 refine CallS.pu (hch) (R0 ?_);try with_reducible exact tt
 refine A00 ?_;try with_reducible exact tt
 refine AW.loopW (α:=Nat) (fun i=>setS (List.replicate 49 .junk) [(2,.fn (.func f) []),(3,.p 0 0),(6,.p 1 0),(9,.p 2 0),(20,.d (.sl L.length (spD rcD L))),(21,.d (.int .i64 L.length)),(22,.d (.int .i64 (i:Nat)))]) (fun i=>[some ⟨62,[.d (.int .i64 k),.d (.int .i64 a),.d (.int .i64 w)]⟩,some ⟨47,[.d .nilsl,.d (.bool false),.d .nilsl]⟩,some ⟨47,(rcD (sumQ W L i)).map .d⟩]) (fun i=>i≤L.length) (fun i=>L.length-i) 3 (fun _=>rfl) (Nat.zero_le _) 0 (Nat.zero_le _) ?_ ?_ ?_
 ·simp
 ·simp [hz]
  exact Subs.cons Sub1.nil (Subs.cons (Sub1.refl _) (Subs.cons Sub1.nil (Subs.refl _)))
 rintro i hi
 simp
 by_cases hi2:i<L.length
 ·have hi3:(i:Int)<L.length:=by omega
  have ew:IntKind.i64.wrap ((i:Int)+1)=((i+1:Nat):Int):=by rw [w64 (by omega) (by omega)];omega
  obtain ⟨s1,s2,s3,q,N1,N2,N3,hp,hN,hg⟩:=hget i hi2
  have hwi:=hw _ (List.getElem_mem hi2)
  have hri:=hrs _ (List.getElem_mem hi2)
  have hfi:=hf _ (List.getElem_mem hi2)
  have hnx:=o_127 W L i hi2
  have hsi:=hsum i hi
  rw [hp] at hwi hri hfi hnx
  simp only at hwi hri hfi hnx
  have hv:=o_sq h hwi
  have hm:=o_p0 q (W (s1,s2,s3)) hri.1 hri.2.1
  have had:=o_p1 (sumQ W L i) (q*W (s1,s2,s3)) hsi hri.2.2
  rw [←hnx] at had
  have hb6:i*6+6≤L.length*6:=by omega
  have hb7:i*6<L.length*6:=by omega
  simp only [parD,tsD,stD,o_wt] at hv hm had hfi
  obtain ⟨A1,A2,A3,hA⟩:∃A1 A2 A3,rcD (sumQ W L i)=[A1,A2,A3]:=⟨_,_,_,rfl⟩
  obtain ⟨B1,B2,B3,hB⟩:∃B1 B2 B3,rcD (sumQ W L (i+1))=[B1,B2,B3]:=⟨_,_,_,rfl⟩
  obtain ⟨V1,V2,V3,hV⟩:∃V1 V2 V3,rcD (valR k a w s1 s2)=[V1,V2,V3]:=⟨_,_,_,rfl⟩
  obtain ⟨W1,W2,W3,hW⟩:∃W1 W2 W3,rcD (W (s1,s2,s3))=[W1,W2,W3]:=⟨_,_,_,rfl⟩
  obtain ⟨M1,M2,M3,hM⟩:∃M1 M2 M3,rcD (q*W (s1,s2,s3))=[M1,M2,M3]:=⟨_,_,_,rfl⟩
  rw [hV] at hv hfi
  rw [hW] at hfi hm
  rw [hM,hN] at hm
  rw [hA,hB,hM] at had
  rw [hA]
  refine A10 (fs hi2 (fs hi3 (fs hLl (fs hg (fs hb6 hb7))))) ?_;try with_reducible exact tt
  refine CallS.pu (hv) (R0 ?_);try with_reducible exact tt
  refine A00 ?_;try with_reducible exact tt
  refine CallS.pu (hfi) (R0 ?_);try with_reducible exact tt
  refine CallS.pu (hm) (R0 ?_);try with_reducible exact tt
  refine CallS.pu (had) (R0 ?_);try with_reducible exact tt
  refine A10 ew ?_;try with_reducible exact tt
  refine ⟨i+1,by omega,by omega,?_,?_⟩
  ·exact Sub1.int (by omega)
  ·rw [hB];exact Subs.refl _
 ·have h2:i=L.length:=by omega
  subst h2
  obtain ⟨A1,A2,A3,hA⟩:∃A1 A2 A3,rcD (sumQ W L L.length)=[A1,A2,A3]:=⟨_,_,_,rfl⟩
  rw [o_wt,hA]
  refine A00 ?_;try with_reducible exact tt
end
section
open Go.RowKit
def vlQ (k a w:Nat) (s:St):Rat:=valR k a w s.1 s.2.1
def vvQ (k a w:Nat) (s:St):Rat:=vlQ k a w s*vlQ k a w s
structure TailRS (k a w:Nat) (L:Sp):Prop where
 len:L.length≤1000000
 well:∀p∈L,WellR k a w p.1.1 p.1.2.1 p.1.2.2
 p:∀p∈L,RS p.2 100000∧RS (vlQ k a w p.1) 100000∧RS (vvQ k a w p.1) 100000∧RS (p.2*vlQ k a w p.1) 100000∧RS (p.2*vvQ k a w p.1) 100000
 s:∀i,i≤L.length→RS (sumQ (vlQ k a w) L i) 1000∧RS (sumQ (vvQ k a w) L i) 1000∧RS (sumQ fulI L i) 1000
 m:RS (exQ (vlQ k a w) L*exQ (vlQ k a w) L) 1000
def varQ (k a w:Nat) (L:Sp):Rat:=exQ (vvQ k a w) L-exQ (vlQ k a w) L*exQ (vlQ k a w) L
def stD3 (k a w:Nat) (L:Sp):List D:=rcD (exQ (vlQ k a w) L)++(rcD (varQ k a w L)++rcD (exQ fulI L))
theorem o_12f (s:St):RS (fulI s) 100000:=by
 unfold fulI
 split
 ·exact o_wx.le (by omega)
 ·exact ⟨by decide,by decide⟩
set_option maxHeartbeats 4000000 in
theorem o_12g {k a w:Nat} (h:GoodR k a w) (L:Sp) (hr:TailRS k a w L) :
  Eqn Tryz.prog o_73 [.d (parD k a w),.d (.sl L.length (spD rcD L))] [] (.tup [.d (.agg (stD3 k a w L)),.d (.int .i64 0)]) []:=by
 refine Eqn.pure o_75 (o_kw _ _) ?_
 have h1:=o_12e (W:=vlQ k a w) h L hr.len hr.well (fun p _=>o_12b p.1 _) (fun p hp=>⟨(hr.p p hp).1,(hr.p p hp).2.1,(hr.p p hp).2.2.2.1⟩) (fun i hi=>(hr.s i hi).1.le (by omega))
 have h2:=o_12e (W:=vvQ k a w) h L hr.len hr.well (fun p hp=>o_12c p.1 _ (hr.p p hp).2.1) (fun p hp=>⟨(hr.p p hp).1,(hr.p p hp).2.2.1,(hr.p p hp).2.2.2.2⟩) (fun i hi=>(hr.s i hi).2.1.le (by omega))
 have h3:=o_12e (W:=fulI) h L hr.len hr.well (fun p hp=>o_12d p.1 _) (fun p hp=>⟨(hr.p p hp).1,o_12f _,by
   unfold fulI
   split
   ·rw [Rat.mul_one];exact (hr.p p hp).1
   ·rw [Rat.mul_zero];exact ⟨by decide,by decide⟩⟩) (fun i hi=>(hr.s i hi).2.2.le (by omega))
 have s1:RS (exQ (vlQ k a w) L) 100000:=by rw [←o_128];exact (hr.s _ (Nat.le_refl _)).1.le (by omega)
 have s2:RS (exQ (vvQ k a w) L) 100000:=by rw [←o_128];exact (hr.s _ (Nat.le_refl _)).2.1.le (by omega)
 have hm:=o_p0 _ _ s1 s1
 have hs:=o_p2 _ _ s2 (hr.m.le (by omega))
 rw [show exQ (vvQ k a w) L-exQ (vlQ k a w) L*exQ (vlQ k a w) L=varQ k a w L from rfl] at hs
 have hLl:=o_vm rcD (fun _=>rfl) L
 refine cc (c':=?z284) ?_ ?_
 case refine_1=>cbv<;>exact rfl
 try simp only [parD,stD3,o_wt] at h1 h2 h3 hm hs ⊢
 generalize exQ (vlQ k a w) L=M at *
 generalize exQ (vvQ k a w) L=M2 at *
 generalize exQ fulI L=F at *
 generalize varQ k a w L=V at *
 obtain ⟨A1,A2,A3,hA⟩:∃A1 A2 A3,rcD M=[A1,A2,A3]:=⟨_,_,_,rfl⟩
 obtain ⟨B1,B2,B3,hB⟩:∃B1 B2 B3,rcD M2=[B1,B2,B3]:=⟨_,_,_,rfl⟩
 obtain ⟨C1,C2,C3,hC⟩:∃C1 C2 C3,rcD F=[C1,C2,C3]:=⟨_,_,_,rfl⟩
 obtain ⟨V1,V2,V3,hV⟩:∃V1 V2 V3,rcD V=[V1,V2,V3]:=⟨_,_,_,rfl⟩
 obtain ⟨S1,S2,S3,hS⟩:∃S1 S2 S3,rcD (M*M)=[S1,S2,S3]:=⟨_,_,_,rfl⟩
 rw [hA] at h1 hm ⊢
 rw [hB] at h2 hs
 rw [hC] at h3 ⊢
 rw [hV] at hs ⊢
 rw [hS] at hm hs
 generalize spD rcD L=LL at *
 refine A00 ?_;try with_reducible exact tt
 refine CallS.pu (h1) (R0 ?_);try with_reducible exact tt
 refine A00 ?_;try with_reducible exact tt
 refine CallS.pu (h2) (R0 ?_);try with_reducible exact tt
 refine A00 ?_;try with_reducible exact tt
 refine CallS.pu (h3) (R0 ?_);try with_reducible exact tt
 refine A00 ?_;try with_reducible exact tt
 refine CallS.pu (hm) (R0 ?_);try with_reducible exact tt
 refine CallS.pu (hs) (R0 ?_);try with_reducible exact tt
end
section
open Go.RowKit
end
section
open Go.RowKit
def hf2:Rat:=mkRat 1 2
end
section
open Go.RowKit
def dlQ (s t:St):Rat:=if t=s then 1 else 0
def gA (top:Nat):Nat→St→Rat
 | 0,_=>0
 | i+1,t=>(gA top i t+dlQ (top-i,0,true) t)+dlQ (top-i,0,false) t
end
section
open Go.RowKit
end
section
open Go.RowKit
end
section
open Go.RowKit
end
section
open Go.RowKit
end
section
open Go.RowKit
end
section
open Go.RowKit
end
section
open Go.RowKit
end
section
open Go.RowKit
theorem o_12h {x y:Rat} (h:x*y=1):∀n:Nat,x^n*y^n=1
 | 0=>by simp
 | n+1=>by
  have:=o_12h h n
  rw [Rat.pow_succ,Rat.pow_succ]
  grind
theorem o_12i {a:Nat} (ha:1≤a) (k:Nat):valM a k+1/chM a k=valM a (k+1):=by
 have h:=o_ro ha k
 have e:chM a k*mkRat ((a+1:Nat):Int) a^k=1:=by
  unfold chM
  refine o_12h ?_ k
  have:mkRat (a:Int) (a+1)*mkRat ((a+1:Nat):Int) a=1:=by
   rw [Rat.mkRat_mul_mkRat,Int.mul_comm,Rat.mkRat_eq_div]
   have n1:(((a+1)*a:Nat):Rat)≠0:=o_yi (Nat.mul_pos (by omega) ha)
   have:(((a+1:Nat):Int)*(a:Int):Int)=(((a+1)*a:Nat):Int):=by simp
   rw [this]
   rw [Rat.div_def];exact Rat.mul_inv_cancel _ n1
  exact this
 generalize mkRat ((a+1:Nat):Int) a^k=y at *
 generalize chM a k=x at *
 have hx:x≠0:=fun h0=>by rw [h0] at e;simp at e
 have:1/x=y:=by
  rw [←e]
  grind
 rw [this];grind
end
section
open Go.RowKit
theorem o_12j (d:Nat):valF d 0=0:=by simp [valF]
theorem o_12k (d x:Nat):valF d (x+1)=valF d x+2^(x/2^d):=by
 unfold valF
 obtain ⟨S,hS⟩:∃S,S=2^d:=⟨_,rfl⟩
 have hp:0<S:=by rw [hS];exact Nat.two_pow_pos d
 rw [←hS]
 obtain ⟨q,hq⟩:∃q,q=x/S:=⟨_,rfl⟩
 obtain ⟨r,hr⟩:∃r,r=x%S:=⟨_,rfl⟩
 have hx:x=S*q+r:=by rw [hq,hr];exact (Nat.div_add_mod x S).symm
 have hlt:r<S:=by rw [hr];exact Nat.mod_lt _ hp
 rw [←hq,←hr]
 have hP:0<2^q:=Nat.two_pow_pos q
 have hb:S≤(S+r)*2^q:=Nat.le_trans (Nat.le_add_right S r) (Nat.le_mul_of_pos_right _ hP)
 by_cases h:r+1<S
 ·have e1:(x+1)/S=q:=by
   rw [hx,Nat.add_assoc,Nat.mul_add_div hp,Nat.div_eq_of_lt h];rfl
  have e2:(x+1)%S=r+1:=by
   rw [hx,Nat.add_assoc,Nat.mul_add_mod,Nat.mod_eq_of_lt h]
  rw [e1,e2,show S+(r+1)=S+r+1 by omega,Nat.add_mul (S+r) 1,Nat.one_mul]
  omega
 ·have hr1:r+1=S:=by omega
  have e1:(x+1)/S=q+1:=by
   rw [hx,Nat.add_assoc,hr1,Nat.mul_add_div hp,Nat.div_self hp]
  have e2:(x+1)%S=0:=by
   rw [hx,Nat.add_assoc,hr1,Nat.mul_add_mod,Nat.mod_self]
  rw [e1,e2,Nat.add_zero,Nat.pow_succ]
  have e3:S*(2^q*2)=(S+r)*2^q+2^q:=by
   rw [←Nat.succ_mul,show (S+r).succ=S*2 by omega,Nat.mul_assoc,Nat.mul_comm 2]
  omega
theorem o_12l (s x:Nat):(placeY s (x+1)).value=(placeY s x).value+2^(placeY s x).shift:=by
 show (nextY s (placeY s x)).value=_
 unfold nextY
 split<;>rfl
theorem o_12m (v e:Nat):mkRat 1 (2^e)*(((v+2^e:Nat):Rat)-(v:Rat))=1:=by
 have h1:((v+2^e:Nat):Rat)-(v:Rat)=((2^e:Nat):Rat):=by
  rw [Rat.natCast_add];grind
 have h2:((2^e:Nat):Rat)≠0:=o_yi (Nat.two_pow_pos e)
 rw [h1,Rat.mkRat_eq_div]
 have:((1:Int):Rat)=1:=rfl
 rw [this,Rat.div_mul_cancel h2]
theorem o_12n {k a w:Nat} (h:GoodS k a w):ValOK (topC w) (chP k a) (valC k a):=by
 obtain ⟨c0,c1⟩:=o_zb h
 refine ⟨?_,fun x hx=>?_,c0,c1⟩
 ·unfold valC
  split
  ·have:((1:Nat):Rat)=1:=rfl
   rw [valM,Rat.pow_zero,this];grind
  ·split
   ·rw [o_12j];rfl
   ·rfl
 ·unfold chP valC
  by_cases hk:k=1
  ·rw [if_pos hk,if_pos hk,if_pos hk]
   have ha:1≤a:=by
    have:=h.1
    rcases this with h1 | h1 | h1<;>omega
   have hn:=o_12i ha x
   have hne:=o_zm ha x
   have:valM a (x+1)-valM a x=1/chM a x:=by rw [←hn];grind
   rw [this,Rat.mul_comm,Rat.div_mul_cancel hne]
  ·rw [if_neg hk,if_neg hk,if_neg hk]
   unfold expOf
   by_cases h2:k=2
   ·rw [if_pos h2,if_pos h2,if_pos h2,o_12k]
    exact o_12m _ _
   ·rw [if_neg h2,if_neg h2,if_neg h2,o_12l]
    exact o_12m _ _
end
section
open Go.RowKit
section
variable {mg:St→St→Sp}
theorem o_12o (g:St→Rat) (x:St×Rat) (B:Sp):∀(j:Nat) (out:Sp),j≤B.length→Uq out→Uq (inG mg x B out j)∧exQ g (inG mg x B out j)=exQ g out+x.2*exQ (fun t=>exQ g (mg x.1 t)) (B.take j)
 | 0,out,_,h=>⟨h,by simp only [inG,List.take_zero,List.foldl_nil,exQ];grind⟩
 | j+1,out,hj,h=>by
  obtain ⟨h1,h2⟩:=o_12o g x B j out (by omega) h
  obtain ⟨h3,h4⟩:=o_wa g (x.2*B[j].2) (atQ (mg x.1 B[j].1)) (inG mg x B out j) h1
  rw [o_11x mg x B out j (by omega)]
  refine ⟨h3,?_⟩
  rw [h4,h2,o_w5,List.take_add_one,List.getElem?_eq_getElem (by omega:j<B.length),Option.toList,o_vx]
  simp only [exQ];grind
theorem o_12p (g:St→Rat) (A B:Sp):∀i,i≤A.length→Uq (outG mg A B i)∧exQ g (outG mg A B i)=exQ (fun s=>exQ (fun t=>exQ g (mg s t)) B) (A.take i)
 | 0,_=>by simp [outG,Uq,exQ]
 | i+1,hi=>by
  obtain ⟨h1,h2⟩:=o_12p g A B i (by omega)
  rw [o_11z mg A B i hi]
  obtain ⟨h3,h4⟩:=o_12o (mg:=mg) g A[i] B B.length (outG mg A B i) (Nat.le_refl _) h1
  refine ⟨h3,?_⟩
  rw [h4,h2,List.take_length,List.take_add_one,List.getElem?_eq_getElem (by omega:i<A.length),Option.toList,o_vx]
  simp only [exQ];grind
theorem o_12q (A B:Sp):Uq (mrgG mg A B):=by rw [←o_120];exact (o_12p (fun _=>0) A B _ (Nat.le_refl _)).1
theorem o_12r (g:St→Rat) (A B:Sp):exQ g (mrgG mg A B)=exQ (fun s=>exQ (fun t=>exQ g (mg s t)) B) A:=by
 rw [←o_120,(o_12p g A B _ (Nat.le_refl _)).2,List.take_length]
theorem o_12s {A B:Sp} (hA:exQ (fun _=>1) A=1) (hB:exQ (fun _=>1) B=1) (hm:∀x∈A,∀y∈B,exQ (fun _=>1) (mg x.1 y.1)=1):exQ (fun _=>1) (mrgG mg A B)=1:=by
 rw [o_12r,o_118 (h:=fun _=>1) fun x hx=>?_]
 ·exact hA
 ·rw [o_118 (h:=fun _=>1) fun y hy=>hm x hx y hy];exact hB
theorem o_12t {R:St→Prop} {A B:Sp} (hm:∀x∈A,∀y∈B,kyQ R (mg x.1 y.1)):kyQ R (mrgG mg A B):=by
 have h1:∀x∈A,∀(j:Nat) (out:Sp),j≤B.length→kyQ R out→kyQ R (inG mg x B out j):=by
  intro x hx j
  induction j with
  | zero=>intro out _ h p hp;exact h p (by simpa [inG] using hp)
  | succ j ih =>
   intro out hj h
   rw [o_11x mg x B out j (by omega)]
   exact o_z2 (ih out (by omega) h) (o_z3 (hm x hx _ (List.getElem_mem _)))
 have h2:∀i,i≤A.length→kyQ R (outG mg A B i):=by
  intro i
  induction i with
  | zero=>intro _ p hp;simp [outG] at hp
  | succ i ih =>
   intro hi
   rw [o_11z mg A B i hi]
   exact h1 _ (List.getElem_mem _) _ _ (Nat.le_refl _) (ih (by omega))
 rw [←o_120]
 exact h2 _ (Nat.le_refl _)
end
theorem o_12u (u:Rat) (l:Sp) (h:exQ (fun _=>1) l=1):exQ (fun _=>u) l=u:=by
 have h1:=o_11o u (fun _=>1) l
 simp only [Rat.mul_one] at h1
 rw [h1,h,Rat.mul_one]
def HQ (V:St→Rat) (M c:Rat) (s:St):Rat:=if s.2.2 then M else V s+c
structure MeanOK (V:St→Rat) (M N:Rat) (A:Sp) (n:Rat):Prop where
 one:exQ (fun _=>1) A=1
 nn:∀p∈A,0≤p.2
 v:∀p∈A,0≤V p.1∧V p.1≤N
 le:exQ V A≤n
 ge:∀c,0≤c→c≤N→n+c≤exQ (HQ V M c) A
theorem o_12v {V:St→Rat} {M N n m:Rat} {A B:Sp} {mg:St→St→Sp} (hA:MeanOK V M N A n) (hB:MeanOK V M N B m) (h0:0≤m) (hN:m≤N) (hmg:∀x∈A,∀y∈B,exQ V (mg x.1 y.1)≤V x.1+V y.1∧(if x.1.2.2 || y.1.2.2 then M else V x.1+V y.1)≤exQ (HQ V M 0) (mg x.1 y.1)) :
  exQ V (mrgG mg A B)≤n+m∧n+m≤exQ (HQ V M 0) (mrgG mg A B):=by
 rw [o_12r,o_12r]
 constructor
 ·have h1:exQ (fun s=>exQ (fun t=>exQ V (mg s t)) B) A≤exQ (fun s=>V s+m) A:=o_11u fun x hx=>⟨hA.nn x hx,by
   have h2:exQ (fun t=>exQ V (mg x.1 t)) B≤exQ (fun t=>V x.1+V t) B:=o_11u fun y hy=>⟨hB.nn y hy,(hmg x hx y hy).1⟩
   rw [o_11n (fun _=>V x.1) V,o_12u _ B hB.one] at h2
   have:=hB.le
   show exQ (fun t=>exQ V (mg x.1 t)) B≤V x.1+m
   grind⟩
  rw [o_11n V (fun _=>m),o_12u _ A hA.one] at h1
  have:=hA.le
  grind
 ·have h1:exQ (HQ V M m) A≤exQ (fun s=>exQ (fun t=>exQ (HQ V M 0) (mg s t)) B) A:=o_11u fun x hx=>⟨hA.nn x hx,by
   have h2:exQ (fun t=>if x.1.2.2 || t.2.2 then M else V x.1+V t) B≤exQ (fun t=>exQ (HQ V M 0) (mg x.1 t)) B:=o_11u fun y hy=>⟨hB.nn y hy,(hmg x hx y hy).2⟩
   refine Rat.le_trans ?_ h2
   unfold HQ
   cases hf:x.1.2.2 with
   | true =>
    simp only [Bool.true_or,if_true]
    rw [o_12u _ B hB.one]
    exact Rat.le_refl
   | false =>
    simp only [Bool.false_or,Bool.false_eq_true,if_false]
    have h3:=hB.ge (V x.1) (hA.v x hx).1 (hA.v x hx).2
    have e:exQ (HQ V M (V x.1)) B=exQ (fun t=>if t.2.2=true then M else V x.1+V t) B:=o_118 fun y _=>by
     unfold HQ
     split
     ·rfl
     ·rw [Rat.add_comm]
    rw [e] at h3
    grind⟩
  exact Rat.le_trans (hA.ge m h0 hN) h1
theorem o_12w {l:Sp} (h0:∀p∈l,0≤p.2) (hz:exQ fulI l=0):∀p∈l,p.1.2.2=true→p.2=0:=by
 induction l with
 | nil=>intro p hp;cases hp
 | cons q l ih =>
  have h1:0≤exQ fulI l:=ex_nn (fun p hp=>h0 p (by simp [hp])) fun p _=>by unfold fulI;split<;>decide
  have h2:=h0 q (by simp)
  have h3:0≤q.2*fulI q.1:=Rat.mul_nonneg h2 (by unfold fulI;split<;>decide)
  simp only [exQ] at hz
  intro p hp hf
  rcases List.mem_cons.1 hp with rfl | hp
  ·have e:fulI p.1=1:=by unfold fulI;rw [if_pos hf]
   rw [e] at hz h3
   grind
  ·exact ih (fun p hp=>h0 p (by simp [hp])) (by grind) p hp hf
theorem HQ_ex {V:St→Rat} {M:Rat} {l:Sp} (h0:∀p∈l,0≤p.2) (hz:exQ fulI l=0):exQ (HQ V M 0) l=exQ V l:=by
 have h1:=o_12w h0 hz
 clear h0 hz
 induction l with
 | nil=>rfl
 | cons q l ih =>
  simp only [exQ]
  rw [ih fun p hp=>h1 p (by simp [hp])]
  by_cases hf:q.1.2.2=true
  ·rw [h1 q (by simp) hf,Rat.zero_mul,Rat.zero_mul]
  ·unfold HQ;rw [if_neg hf,Rat.add_zero]
section
variable {top:Nat} {c V:Nat→Rat} {M N:Rat}
theorem o_12x {c':Nat→Rat} {d:Rat} {s:St} (hd:s.1<top→c' s.1*(V (s.1+1)-V s.1)=d) (hs:okQ top s) (e:Rat) (hM:V s.1+(e+d)≤M):HQ (plQ V) M (e+d) s≤exQ (HQ (plQ V) M e) (stepQ top c' s):=by
 rw [(o_wg _ top c' s).2]
 split
 ·unfold HQ plQ
  simp only [if_true]
  split
  ·exact Rat.le_refl
  ·exact hM
 ·rename_i hne
  have hlt:s.1<top:=by have:=hs.1;omega
  have hf:s.2.2=false:=by
   cases hf:s.2.2 with
   | false=>rfl
   | true=>exact absurd (hs.2.2 hf) hne
  unfold HQ plQ
  simp only [hf,Bool.false_eq_true,if_false]
  have:=hd hlt
  grind
theorem hq_of (h:ValOK top c V) (hV:∀k,k≤top→V k≤N):∀(n:Nat) (e:Rat),e+(n:Rat)+N≤M→(n:Rat)+e≤exQ (HQ (plQ V) M e) (ofZ top c n)
 | 0,e,_=>by
  have h1:exQ (HQ (plQ V) M e) (ofZ top c 0)=1*(V 0+e)+0:=rfl
  rw [h1,h.v0]
  have:((0:Nat):Rat)=0:=rfl
  rw [this]
  grind
 | n+1,e,hM=>by
  have en:((n+1:Nat):Rat)=(n:Rat)+1:=by simp
  rw [en] at hM ⊢
  have ih:=hq_of h hV n (e+1) (by grind)
  show _≤exQ (HQ (plQ V) M e) (timesQ (stepQ top c) (ofZ top c n))
  rw [o_wd]
  refine Rat.le_trans (b:=exQ (HQ (plQ V) M (e+1)) (ofZ top c n)) (by grind) ?_
  refine o_11u fun p hp=>?_
  obtain ⟨h1,h2⟩:=o_11k h n p hp
  refine ⟨h2,o_12x (fun hlt=>h.step _ hlt) h1 e ?_⟩
  have:=hV _ h1.1
  have hn:(0:Rat)≤(n:Rat):=by exact_mod_cast Nat.zero_le n
  grind
end
theorem o_12y {k a w:Nat} (h:GoodS k a w) {r x:Nat} (hr:r<topC w) (hrx:r≤x) (hx:x<topC w):ratC k a r x*(valC k a (x+1)-valC k a x)=valC k a (r+1)-valC k a r:=by
 have hV:=o_12n h
 have h15:topC w≤15:=by have:=Nat.pow_le_pow_right (n:=2) (by omega) h.2.2;unfold topC;omega
 have h1:=hV.step x hx
 have h2:=hV.step r hr
 have hne:=o_zp h (x:=r) (by omega)
 unfold ratC
 rw [if_pos hrx]
 generalize valC k a (x+1)-valC k a x=u at *
 generalize valC k a (r+1)-valC k a r=v at *
 generalize chP k a x=y at *
 generalize chP k a r=z at *
 have h3:z*(y/z*u)=y*u:=by grind
 have h4:z*(y/z*u)=z*v:=by rw [h3,h1,h2]
 have h5:z⁻¹*(z*(y/z*u))=z⁻¹*(z*v):=by rw [h4]
 grind
theorem cl_le {k a w:Nat} (h:GoodS k a w) {s:St} (hs:okQ (topC w) s):∀r,r≤topC w→exQ (plQ (valC k a)) (clQ (topC w) k a s r)≤valC k a s.1+valC k a r
 | 0,_=>by
  have hV:=o_12n h
  have e:exQ (plQ (valC k a)) (clQ (topC w) k a s 0)=1*valC k a s.1+0:=rfl
  rw [e,hV.v0];grind
 | r+1,hr=>by
  have ih:=cl_le h hs r (by omega)
  have hV:=o_12n h
  have hup:=cl_up h hs r (by omega)
  have hok:=cl_ok h hs r
  show exQ _ (timesQ _ (clQ (topC w) k a s r))≤_
  rw [o_103]
  have h1:exQ (plQ (SQ (topC w) (ratC k a r) (valC k a))) (clQ (topC w) k a s r)≤exQ (fun t=>plQ (valC k a) t+(valC k a (r+1)-valC k a r)) (clQ (topC w) k a s r):=o_11u fun p hp=>⟨(hok p hp).2,by
   obtain ⟨h2,h3⟩:=hup p hp
   show SQ (topC w) (ratC k a r) (valC k a) p.1.1≤valC k a p.1.1+(valC k a (r+1)-valC k a r)
   have hpos:0≤valC k a (r+1)-valC k a r:=by
    have h4:=hV.step r (by omega)
    have h5:=hV.c0 r (by omega)
    apply Classical.byContradiction
    intro hn
    have h6:=Rat.mul_le_mul_of_nonneg_left (Rat.le_of_lt (Rat.not_le.1 hn)) h5
    rw [h4,Rat.mul_zero] at h6
    exact absurd h6 (by decide)
   unfold SQ
   split
   ·rename_i e;rw [e];grind
   ·rename_i e
    have:=o_12y h (r:=r) (x:=p.1.1) (by omega) h3 (by have:=h2.1;omega)
    grind⟩
  rw [o_11n (plQ (valC k a)) (fun _=>valC k a (r+1)-valC k a r),o_12u _ _ (o_zy s r)] at h1
  grind
theorem cl_ge {k a w:Nat} (h:GoodS k a w) {M N:Rat} (hN:∀x,x≤topC w→0≤valC k a x∧valC k a x≤N) {s:St} (hs:okQ (topC w) s):∀(r:Nat) (e:Rat),r≤topC w→e+valC k a r+N≤M→HQ (plQ (valC k a)) M (e+valC k a r) s≤exQ (HQ (plQ (valC k a)) M e) (clQ (topC w) k a s r)
 | 0,e,_,_=>by
  have hV:=o_12n h
  have e1:exQ (HQ (plQ (valC k a)) M e) (clQ (topC w) k a s 0)=1*HQ (plQ (valC k a)) M e s+0:=rfl
  rw [e1,hV.v0]
  have:e+0=e:=by grind
  rw [this];grind
 | r+1,e,hr,hM=>by
  obtain ⟨d,hd⟩:∃d,d=valC k a (r+1)-valC k a r:=⟨_,rfl⟩
  have h1:=(hN (r+1) hr)
  have h0:=(hN r (by omega))
  have e3:e+d+valC k a r+N=e+valC k a (r+1)+N:=by rw [hd];grind
  have ih:=cl_ge h hN hs r (M:=M) (e+d) (by omega) (by rw [e3];exact hM)
  have hup:=cl_up h hs r (by omega)
  have hok:=cl_ok h hs r
  have ee:e+d+valC k a r=e+valC k a (r+1):=by rw [hd];grind
  rw [ee] at ih
  refine Rat.le_trans ih ?_
  show _≤exQ _ (timesQ _ (clQ (topC w) k a s r))
  rw [o_wd]
  refine o_11u fun p hp=>⟨(hok p hp).2,?_⟩
  obtain ⟨h2,h3⟩:=hup p hp
  refine o_12x (fun hlt=>?_) h2 e ?_
  ·rw [hd];exact o_12y h (by omega) h3 hlt
  ·have h4:=(hN p.1.1 h2.1).2
   grind
theorem o_12z {k a w:Nat} (h:GoodS k a w) {M N:Rat} (hN:∀x,x≤topC w→0≤valC k a x∧valC k a x≤N) (hM:N+N≤M) {s o:St} (hs:okQ (topC w) s) (ho:okQ (topC w) o) :
  exQ (plQ (valC k a)) (mgQ (topC w) k a s o)≤plQ (valC k a) s+plQ (valC k a) o∧(if s.2.2 || o.2.2 then M else plQ (valC k a) s+plQ (valC k a) o)≤exQ (HQ (plQ (valC k a)) M 0) (mgQ (topC w) k a s o):=by
 constructor
 ·have h1:=cl_le h hs o.1 ho.1
  unfold mgQ
  rw [o_wd,o_118 (h:=plQ (valC k a)) fun p _=>?_]
  ·exact h1
  ·unfold fullQ plQ;simp only [exQ];grind
 ·unfold mgQ
  rw [o_wd]
  cases hf:o.2.2 with
  | true =>
   simp only [Bool.or_true,if_true]
   rw [o_118 (h:=fun _=>M) fun p _=>?_,o_12u _ _ (o_zy s o.1)]
   ·exact Rat.le_refl
   ·unfold fullQ HQ;simp only [exQ,Bool.or_true,if_true];grind
  | false =>
   have h1:=cl_ge h hN hs o.1 (M:=M) 0 ho.1 (by have:=(hN o.1 ho.1).2;grind)
   rw [o_118 (h:=HQ (plQ (valC k a)) M 0) fun p _=>?_]
   ·refine Rat.le_trans ?_ h1
    unfold HQ plQ
    simp only [Bool.or_false]
    split
    ·exact Rat.le_refl
    ·grind
   ·unfold fullQ HQ plQ;simp only [exQ,Bool.or_false];grind
theorem o_130 {k a w:Nat} (h:GoodS k a w) {M N:Rat} (hN:∀x,x≤topC w→0≤valC k a x∧valC k a x≤N) (n:Nat) (hM:N+(n:Rat)+N≤M):MeanOK (plQ (valC k a)) M N (atQ (dstQ k a w (0,0,false) n)) n:=by
 have hV:=o_12n h
 have hok:=o_11k hV n
 refine ⟨by rw [o_w5];exact o_wq _ _,fun p hp=>?_,fun p hp=>?_,?_,fun c h0 h1=>?_⟩
 ·exact (o_wl hok p hp).2
 ·exact hN _ (o_wl hok p hp).1.1
 ·rw [o_w5]
  have h1:=o_11r hV n
  have h2:=o_11t hV n
  show exQ (plQ (valC k a)) (ofZ (topC w) (chP k a) n)≤_
  grind
 ·rw [o_w5]
  exact hq_of hV (fun x hx=>(hN x hx).2) n c (by grind)
def vT (s:St):Rat:=((s.1*2^s.2.1:Nat):Rat)
theorem o_131 {A B:Nat} {G:St→Rat} {X:Nat} (hb:∀s:St,s.2.1<B→s.1≤X→exQ G (binQ s)≤G s) (ht:∀s:St,A<s.1→s.1≤X→s.2.1=B→G (A,B,true)≤G s):∀(f:Nat) (s:St),s.2.1+f=B→s.1≤X→exQ G (downA A B s)≤G s
 | 0,s,hT,hX=>by
  by_cases h:s.1≤A
  ·rw [o_11c h];simp only [exQ];grind
  ·rw [o_11d h (by omega)]
   have:=ht s (by omega) hX (by omega)
   rw [show s.2.1=B by omega]
   simp only [exQ];grind
 | f+1,s,hT,hX=>by
  by_cases h:s.1≤A
  ·rw [o_11c h];simp only [exQ];grind
  ·rw [o_11e h (by omega),o_wd]
   refine Rat.le_trans (o_11u (h:=G) fun p hp=>?_) (hb s (by omega) hX)
   have hk:=(SpOK.bin s).ky p hp
   exact ⟨(SpOK.bin s).nn p hp,o_131 hb ht f p.1 (by rw [hk.2];simp only;omega) (by omega)⟩
theorem bin_v (s:St):exQ vT (binQ s)=vT s:=by
 rw [o_10z]
 have e:(fun k=>vT (k,s.2.1+1,s.2.2))=fun k:Nat=>((2^(s.2.1+1):Nat):Rat)*(k:Rat)+0*(fun _=>(0:Rat)) k:=by
  funext k
  unfold vT
  rw [Rat.natCast_mul]
  grind
 rw [e,o_111,o_112,o_110]
 unfold vT
 have h:mkRat 1 2*2=1:=by decide +kernel
 rw [Rat.natCast_mul,Nat.pow_succ,Rat.natCast_mul]
 have:((2:Nat):Rat)=2:=rfl
 rw [this]
 grind
theorem o_132 (s:St) (M c:Rat):exQ (HQ vT M c) (binQ s)=HQ vT M c s:=by
 have h1:=bin_v s
 rw [o_10z] at h1 ⊢
 unfold HQ
 simp only
 cases s.2.2 with
 | true=>simp only [if_true];exact o_110 _ _
 | false =>
  simp only [Bool.false_eq_true,if_false] at h1 ⊢
  have e:(fun k=>vT (k,s.2.1+1,false)+c)=fun k:Nat=>1*(fun k=>vT (k,s.2.1+1,false)) k+1*(fun _=>c) k:=by
   funext k;simp only;grind
  rw [e,o_111,o_110]
  have h2:bex s.1 (fun k=>vT (k,s.2.1+1,false))=vT s:=h1
  rw [h2];grind
theorem vT_nn (s:St):0≤vT s:=by unfold vT;exact_mod_cast Nat.zero_le _
theorem vT_le {s:St} {X B:Nat} (h1:s.1≤X) (h2:s.2.1≤B):vT s≤((X*2^B:Nat):Rat):=by
 unfold vT
 have:s.1*2^s.2.1≤X*2^B:=Nat.mul_le_mul h1 (Nat.pow_le_pow_right (by decide) h2)
 exact_mod_cast this
theorem o_133 {A B X:Nat} (hAX:A≤X) {M c:Rat} (hM:((X*2^B:Nat):Rat)+c≤M) {s:St} (hT:s.2.1≤B) (hX:s.1≤X):exQ vT (downA A B s)≤vT s∧HQ vT M c s≤exQ (HQ vT M c) (downA A B s):=by
 constructor
 ·refine o_131 (X:=X) (fun s _ _=>by rw [bin_v];exact Rat.le_refl) (fun s h1 _ h2=>?_) (B-s.2.1) s (by omega) hX
  unfold vT
  have:A*2^B≤s.1*2^s.2.1:=by rw [h2];exact Nat.mul_le_mul_right _ (by omega)
  exact_mod_cast this
 ·have h1:=o_131 (A:=A) (B:=B) (G:=fun s=>-(HQ vT M c s)) (X:=X) (fun s _ _=>?_) (fun s h1 h3 h2=>?_) (B-s.2.1) s (by omega) hX
  ·have e:exQ (fun s=>-(HQ vT M c s)) (downA A B s) = -exQ (HQ vT M c) (downA A B s):=by
    have:=o_11o (-1) (HQ vT M c) (downA A B s)
    have e2:(fun t=>(-1:Rat)*HQ vT M c t)=fun s=>-(HQ vT M c s):=by funext t;grind
    rw [e2] at this
    rw [this];grind
   rw [e] at h1
   grind
  ·have e:exQ (fun s=>-(HQ vT M c s)) (binQ s) = -exQ (HQ vT M c) (binQ s):=by
    have:=o_11o (-1) (HQ vT M c) (binQ s)
    have e2:(fun t=>(-1:Rat)*HQ vT M c t)=fun s=>-(HQ vT M c s):=by funext t;grind
    rw [e2] at this
    rw [this];grind
   rw [e,o_132];exact Rat.le_refl
  ·show -(HQ vT M c (A,B,true))≤-(HQ vT M c s)
   have h4:HQ vT M c (A,B,true)=M:=rfl
   rw [h4]
   have h5:HQ vT M c s≤M:=by
    unfold HQ
    split
    ·exact Rat.le_refl
    ·have:=vT_le (s:=s) h3 (show s.2.1≤B by omega)
     grind
   grind
theorem o_134 (s:St):vT (s.1+1,s.2)=vT s+((2^s.2.1:Nat):Rat):=by
 unfold vT
 simp only
 rw [Nat.add_mul,Nat.one_mul,Rat.natCast_add]
theorem o_135 {A B:Nat} {M c:Rat} (hM:(((A+1)*2^B:Nat):Rat)+c≤M) {s:St} (hs:okT A B s):exQ vT (stepT A B s)≤vT s+1∧HQ vT M (c+1) s≤exQ (HQ vT M c) (stepT A B s):=by
 obtain ⟨h1,h2,h3⟩:=hs
 have he:SpOK B (fun t=>t.1≤A+1∧t.2=s.2) (eitQ (mkRat 1 (2^s.2.1)) (s.1+1,s.2) s):=SpOK.eit ((o_119 _).up h2) ((o_11a _).up h2) ⟨by simp only;omega,rfl⟩ ⟨by omega,rfl⟩
 have hp:=o_10t s.2.1
 have hv:=o_134 s
 unfold stepT
 rw [o_wd,o_wd]
 constructor
 ·refine Rat.le_trans (o_11u (h:=vT) fun p hp=>⟨he.nn p hp,(o_133 (A:=A) (X:=A+1) (by omega) hM (by rw [(he.ky p hp).2];exact h2) (he.ky p hp).1).1⟩) ?_
  rw [(o_wf vT _ _ _).2,hv]
  grind
 ·refine Rat.le_trans ?_ (o_11u (g:=HQ vT M c) fun p hp=>⟨he.nn p hp,(o_133 (A:=A) (X:=A+1) (by omega) hM (by rw [(he.ky p hp).2];exact h2) (he.ky p hp).1).2⟩)
  rw [(o_wf (HQ vT M c) _ _ _).2]
  unfold HQ
  simp only
  cases s.2.2 with
  | true=>simp only [if_true];grind
  | false =>
   simp only [Bool.false_eq_true,if_false]
   rw [hv]
   grind
theorem o_136 {A B:Nat} {M:Rat} {s:St} (hs:okT A B s):∀(n:Nat) (c:Rat),(((A+1)*2^B:Nat):Rat)+c+(n:Rat)≤M→exQ vT (ofQ (stepT A B) s n)≤vT s+(n:Rat)∧HQ vT M (c+(n:Rat)) s≤exQ (HQ vT M c) (ofQ (stepT A B) s n)
 | 0,c,_=>by
  have e0:((0:Nat):Rat)=0:=rfl
  simp only [ofQ,exQ,e0,Rat.add_zero,Rat.one_mul]
  exact ⟨Rat.le_refl,Rat.le_refl⟩
 | n+1,c,hM=>by
  have en:((n+1:Nat):Rat)=(n:Rat)+1:=by simp
  rw [en] at hM ⊢
  have hn:(0:Rat)≤(n:Rat):=by exact_mod_cast Nat.zero_le n
  obtain ⟨i1,i2⟩:=o_136 (M:=M) hs n (c+1) (by grind)
  have hof:SpOK (n*(B+(A+1)*B)) (okT A B) (ofQ (stepT A B) s n):=SpOK.of (fun t (ht:okT A B t)=>SpOK.stepT ht) hs n
  have hst:=fun t (ht:okT A B t)=>o_135 (A:=A) (B:=B) (M:=M) (c:=c) (by grind) ht
  show exQ vT (timesQ (stepT A B) (ofQ (stepT A B) s n))≤_∧_≤exQ (HQ vT M c) (timesQ (stepT A B) (ofQ (stepT A B) s n))
  rw [o_wd,o_wd]
  constructor
  ·have h1:exQ (fun t=>exQ vT (stepT A B t)) (ofQ (stepT A B) s n)≤exQ (fun t=>vT t+1) (ofQ (stepT A B) s n):=o_11u fun p hp=>⟨hof.nn p hp,(hst _ (hof.ky p hp)).1⟩
   rw [o_11n vT (fun _=>1),hof.one] at h1
   grind
  ·have h1:exQ (HQ vT M (c+1)) (ofQ (stepT A B) s n)≤exQ (fun t=>exQ (HQ vT M c) (stepT A B t)) (ofQ (stepT A B) s n):=o_11u fun p hp=>⟨hof.nn p hp,(hst _ (hof.ky p hp)).2⟩
   have e:c+((n:Rat)+1)=c+1+(n:Rat):=by grind
   rw [e]
   exact Rat.le_trans i2 h1
theorem o_137 {A B:Nat} {M N:Rat} (n:Nat) (hN:(((A+1)*2^B:Nat):Rat)≤N) (hM:N+N+(n:Rat)≤M):MeanOK vT M N (atQ (ofQ (stepT A B) (0,0,false) n)) n:=by
 have hs:okT A B (0,0,false):=⟨Nat.zero_le _,Nat.zero_le _,by simp⟩
 have hof:SpOK (n*(B+(A+1)*B)) (okT A B) (ofQ (stepT A B) (0,0,false) n):=SpOK.of (fun t (ht:okT A B t)=>SpOK.stepT ht) hs n
 have hv0:vT (0,0,false)=0:=by unfold vT;simp
 refine ⟨hof.at.one,hof.at.nn,fun p hp=>⟨vT_nn _,?_⟩,?_,fun c h0 h1=>?_⟩
 ·obtain ⟨a1,a2,-⟩:=hof.at.ky p hp
  exact Rat.le_trans (vT_le (X:=A+1) (B:=B) (by omega) a2) hN
 ·have h0:(0:Rat)≤N:=Rat.le_trans (by exact_mod_cast Nat.zero_le _) hN
  have:=(o_136 (M:=M) hs n 0 (by grind)).1
  rw [o_w5]
  rw [hv0] at this
  grind
 ·have:=(o_136 (M:=M) hs n c (by grind)).2
  rw [o_w5]
  refine Rat.le_trans ?_ this
  unfold HQ
  simp only [Bool.false_eq_true,if_false,hv0]
  grind
theorem o_138 (s:St):∀n,exQ vT (thinQ s n)=vT s
 | 0=>by simp only [thinQ,ofQ,exQ];grind
 | n+1=>by
  show exQ vT (timesQ binQ (thinQ s n))=_
  rw [o_wd,o_118 (h:=vT) fun p _=>bin_v p.1]
  exact o_138 s n
theorem o_139 {A B:Nat} {M:Rat} (hM:(((A+A)*2^B:Nat):Rat)≤M) {s o:St} (hs:okT A B s) (ho:okT A B o) :
  exQ vT (mgT A B s o)≤vT s+vT o∧(if s.2.2 || o.2.2 then M else vT s+vT o)≤exQ (HQ vT M 0) (mgT A B s o):=by
 obtain ⟨s1,s2,s3⟩:=hs
 obtain ⟨o1,o2,o3⟩:=ho
 have ha:=(SpOK.thin s (o.2.1-s.2.1)).at
 have hb:=(SpOK.thin o (s.2.1-o.2.1)).at
 have hva:exQ vT (atQ (thinQ s (o.2.1-s.2.1)))=vT s:=by rw [o_w5];exact o_138 _ _
 have hvb:exQ vT (atQ (thinQ o (s.2.1-o.2.1)))=vT o:=by rw [o_w5];exact o_138 _ _
 unfold mgT
 generalize atQ (thinQ s (o.2.1-s.2.1))=LA at *
 generalize atQ (thinQ o (s.2.1-o.2.1))=LB at *
 obtain ⟨FF,hFF⟩:∃FF,FF=(s.2.2 || o.2.2):=⟨_,rfl⟩
 rw [←hFF]
 have hj:SpOK _ (fun t=>t.1≤A+A∧t.2=(max s.2.1 o.2.1,FF)) (joQ FF LA LB):=ha.join hb fun t u ht hu=>⟨by simp only;omega,by simp only [ht.2,Prod.mk.injEq,and_true];omega⟩
 have hdn:=fun p (hp:p∈joQ FF LA LB)=>o_133 (A:=A) (B:=B) (X:=A+A) (M:=M) (c:=0) (by omega) (by grind) (s:=p.1) (by rw [(hj.ky p hp).2];simp only;omega) (hj.ky p hp).1
 have hsum:exQ (fun t=>exQ (fun u=>vT (t.1+u.1,t.2.1,FF)) LB) LA=vT s+vT o:=by
  have e1:exQ (fun t=>exQ (fun u=>vT (t.1+u.1,t.2.1,FF)) LB) LA=exQ (fun t=>vT t+vT o) LA:=by
   refine o_118 fun p hp=>?_
   have hk:=ha.ky p hp
   have e2:exQ (fun u=>vT (p.1.1+u.1,p.1.2.1,FF)) LB=exQ (fun u=>vT p.1+vT u) LB:=by
    refine o_118 fun q hq=>?_
    have hl:=hb.ky q hq
    unfold vT
    simp only
    have e3:p.1.2.1=q.1.2.1:=by rw [hk.2,hl.2];simp only;omega
    rw [Nat.add_mul,Rat.natCast_add,e3]
   show exQ (fun u=>vT (p.1.1+u.1,p.1.2.1,FF)) LB=vT p.1+vT o
   rw [e2,o_11n (fun _=>vT p.1) vT,o_12u _ _ hb.one,hvb]
  rw [e1,o_11n vT (fun _=>vT o),o_12u _ _ ha.one,hva]
 rw [o_wd,o_wd]
 constructor
 ·refine Rat.le_trans (o_11u (h:=vT) fun p hp=>⟨hj.nn p hp,(hdn p hp).1⟩) ?_
  rw [o_11j,hsum];exact Rat.le_refl
 ·refine Rat.le_trans ?_ (o_11u (g:=HQ vT M 0) fun p hp=>⟨hj.nn p hp,(hdn p hp).2⟩)
  rw [o_11j]
  cases FF with
  | true =>
   simp only [if_true]
   rw [o_118 (h:=fun _=>M) fun p _=>?_,o_12u _ _ ha.one]
   ·exact Rat.le_refl
   ·unfold HQ;simp only [if_true];exact o_12u _ _ hb.one
  | false =>
   simp only [Bool.false_eq_true,if_false]
   have e:exQ (fun t=>exQ (fun u=>HQ vT M 0 (t.1+u.1,t.2.1,false)) LB) LA=exQ (fun t=>exQ (fun u=>vT (t.1+u.1,t.2.1,false)) LB) LA:=o_118 fun p _=>o_118 fun q _=>by
    unfold HQ;simp only [Bool.false_eq_true,if_false];grind
   rw [e,hsum];exact Rat.le_refl
end
section
open Go.RowKit
theorem o_13a (n:Nat) (hn:n≤8192):Eqn Tryz.prog o_bo [.d (.int .i64 n)] [] (.d (rD (mkRat 1 (2^n)))) []:=by
 refine Eqn.pure o_bq Plain.ok ?_
 have hh:=o_n8 n (by omega)
 rw [show D.agg [natW 1,.bool false,natW (2^n-1)]=rD (mkRat 1 (2^n)) from o_x1 n] at hh
 obtain ⟨A1,A2,A3,hA⟩:∃A1 A2 A3,rD (mkRat 1 (2^n)) = .agg [A1,A2,A3]:=⟨_,_,_,rfl⟩
 rw [hA] at hh ⊢
 refine cc (c':=?z298) ?_ ?_
 case refine_1=>cbv<;>exact rfl
 refine A00 ?_;try with_reducible exact tt
 refine CallS.pu (hh) (R0 ?_);try with_reducible exact tt
theorem o_13b (n:Nat):size (2^n)≤n+1:=o_z9 2 (o_mr (by decide)) n
theorem Gi.rs {e:Nat} {x:Rat} (h:Gi e x) (h1:x≤1) (he:e≤90000):RS x 90001:=(h.gr h1).rs (Nat.two_pow_pos e) (Nat.le_refl _) (by rw [Nat.one_mul];have:=o_13b e;omega)
theorem SpOK.rs {e:Nat} {P:St→Prop} {l:Sp} (h:SpOK e P l) (he:e≤90000):∀p∈l,RS p.2 100000:=fun p hp=>((h.gi p hp).rs (o_113 h.nn (by rw [h.one];exact Rat.le_refl) p hp) he).le (by omega)
theorem o_13c {s:St}:∀{l:Sp},(∀p∈l,p.1≠s)→getQ l s=0
 | [],_=>rfl
 | p::l,h=>by
  unfold getQ
  rw [if_neg fun e=>h p (by simp) e.symm]
  exact o_13c fun q hq=>h q (by simp [hq])
theorem o_13d {K k:Nat} (hK:K≤1000) (hk:k≤K):RS (binP K k) 100000:=by
 have h1:Gi K (binP K k):=by
  obtain ⟨z,hz⟩:=o_119 K
  refine ⟨wayQ K k*z,?_⟩
  unfold binP
  rw [Rat.natCast_mul,←hz];grind
 have h2:binP K k≤1:=by
  unfold binP
  rw [o_10r K k (by omega)]
  have hp:=o_10t K
  have h0:(0:Rat)≤mkRat 1 (2^K):=(o_119 K).nn
  have h3:((chs K k:Nat):Rat)≤((2^K:Nat):Rat):=by exact_mod_cast o_10p K k
  have:=Rat.mul_le_mul_of_nonneg_right h3 h0
  grind
 exact (h1.rs h2 (by omega)).le (by omega)
set_option maxHeartbeats 4000000 in
theorem o_13e (s:St) (hK:s.1≤1000) (hT:s.2.1≤1000):Eqn Tryz.prog o_ea [.d (.agg (stD s))] [] (.mp 0) [spO (binQ s)]:=by
 obtain ⟨K,T,f⟩:=s
 simp only at hK hT
 refine Eqn.gen [1] o_ec (by simp) (by simp) (by rfl) (by decide) (by simp) (by simp [spO]) ?_
 have hof:∀y:Nat,y<2^60→Eqn Tryz.prog o_bi [.d (.sl 1 [.int .u64 y])] [] (.d (.agg [natW y])) []:=fun y hy=>by
  have:=o_kh [y] (o_ld (by omega)) (by simp)
  simpa [W,wval] using this
 have ho1:=hof 1 (by omega)
 have hh:=o_13a K (by omega)
 have eT:IntKind.i64.wrap ((T:Int)+1)=((T+1:Nat):Int):=by rw [w64 (by omega) (by omega)];omega
 refine cc (c':=?z299) ?_ ?_
 case refine_1=>cbv<;>exact rfl
 try simp only [stD,spO,o_wt] at hh ⊢
 refine A00 ?_;try with_reducible exact tt
 refine CallS.pf 2 1 ⟨199,_⟩ [.int .u64 (1:Nat)] (ho1) (by first | rfl | (simp;done)) (R0 ?_);try with_reducible exact tt
 refine A00 ?_;try with_reducible exact tt
 refine AW.loopW (α:=Nat) (fun k=>setS (List.replicate 50 .junk) [(1,.p 0 0),(3,.mp 1),(4,.p 3 0),(5,.d (.int .i64 (k:Nat)))]) (fun k=>[some ⟨64,[.d (.int .i64 K),.d (.int .i64 T),.d (.bool f)]⟩,some ⟨1000391,(spD rcD (binI (K,T,f) k)).map .d⟩,none,some ⟨43,[.d (natW (wayQ K k))]⟩]) (fun k=>k≤K+1) (fun k=>K+1-k) 4 (fun _=>rfl) (Nat.zero_le _) 0 (Nat.zero_le _) ?_ ?_ ?_
 ·simp
 ·simp [binI,wayQ,spD]
 rintro k hk
 simp
 by_cases hk2:k≤K
 ·have hk3:(k:Int)≤K:=by omega
  have ew:IntKind.i64.wrap ((k:Int)+1)=((k+1:Nat):Int):=by rw [w64 (by omega) (by omega)];omega
  have es:IntKind.i64.wrap ((K:Int)-k)=((K-k:Nat):Int):=by rw [w64 (by omega) (by omega)];omega
  have eu:IntKind.u64.wrap ((K-k:Nat):Int)=((K-k:Nat):Int):=wu64 (by omega) (by omega)
  have eu2:IntKind.u64.wrap ((k+1:Nat):Int)=((k+1:Nat):Int):=wu64 (by omega) (by omega)
  have hw:size (wayQ K k)≤1001:=by
   rw [o_10r K k (by omega)]
   have:=o_l1 (o_10p K k)
   have:=o_13b K
   omega
  have hrn:=o_p5 (wayQ K k)
  have s1:RS ((wayQ K k:Nat):Rat) 100000:=by
   have hg:Gr 1 (2^K) ((wayQ K k:Nat):Rat):=⟨wayQ K k,by rw [show ((1:Nat):Rat)=1 from rfl,Rat.mul_one],by rw [o_10r K k (by omega),Nat.mul_one];exact o_10p K k⟩
   exact hg.rs (by decide) (Nat.two_pow_pos K) (by rw [Nat.mul_one];have:=o_13b K;omega)
  have s2:RS (mkRat 1 (2^K)) 100000:=by
   have h1:RS (mkRat 1 (2^K)) 1001:=RS.mk' (Nat.two_pow_pos K) (Nat.le_trans (o_mr (by decide)) (by omega)) (by have:=o_13b K;omega)
   exact h1.le (by omega)
  have hm:=o_p0 ((wayQ K k:Nat):Rat) (mkRat 1 (2^K)) s1 s2
  rw [show ((wayQ K k:Nat):Rat)*mkRat 1 (2^K)=binP K k from rfl] at hm
  have hgt:getQ (binI (K,T,f) k) (k,T+1,f)=0:=o_13c fun p hp e=>by
   have:=(o_10w k p hp).1
   rw [e] at this
   simp only at this
   omega
  have hadd:=o_ww (binI (K,T,f) k) (k,T+1,f) (binP K k) (by rw [hgt];exact ⟨by decide,by decide⟩) (o_13d hK hk2)
  rw [show addQ (binI (K,T,f) k) (k,T+1,f) (binP K k)=binI (K,T,f) (k+1) from rfl] at hadd
  have hsk:size (K-k)≤1:=o_mr (by omega)
  have hmu:=o_mq (wayQ K k) (K-k) (by omega) (by omega)
  have hdv:=o_n4 (wayQ K k*(K-k)) (k+1) (by have:=o_om (wayQ K k) (K-k);omega) (by omega) (.inl (by omega)) (Nat.le_trans (o_mr (by omega)) (by omega))
  have ho2:=hof (K-k) (by omega)
  have ho3:=hof (k+1) (by omega)
  rw [show wayQ K k*(K-k)/(k+1)=wayQ K (k+1) from rfl] at hdv
  obtain ⟨A1,A2,A3,hA⟩:∃A1 A2 A3,rcD ((wayQ K k:Nat):Rat)=[A1,A2,A3]:=⟨_,_,_,rfl⟩
  obtain ⟨H1,H2,H3,hH⟩:∃H1 H2 H3,rcD (mkRat 1 (2^K))=[H1,H2,H3]:=⟨_,_,_,rfl⟩
  obtain ⟨B1,B2,B3,hB⟩:∃B1 B2 B3,rcD (binP K k)=[B1,B2,B3]:=⟨_,_,_,rfl⟩
  simp only [o_wt,stD,spO] at hrn hm hadd
  rw [hA] at hrn hm
  rw [hH] at hm hh
  rw [hB] at hm hadd
  obtain ⟨M,hM⟩:∃M,M=wayQ K k*(K-k):=⟨_,rfl⟩
  rw [←hM] at hmu hdv
  obtain ⟨R,hR⟩:∃R,R=M%(k+1):=⟨_,rfl⟩
  rw [←hR] at hdv
  obtain ⟨WN,hWN⟩:∃WN,WN=wayQ K (k+1):=⟨_,rfl⟩
  rw [←hWN] at hdv
  generalize wayQ K k=WK at *
  obtain ⟨k1,hk1⟩:∃k1,k1=k+1:=⟨_,rfl⟩
  obtain ⟨T1,hT1⟩:∃T1,T1=T+1:=⟨_,rfl⟩
  obtain ⟨Kk,hKk⟩:∃Kk,Kk=K-k:=⟨_,rfl⟩
  rw [←hT1] at hadd eT
  rw [←hk1] at hdv ho3 eu2 ew hadd
  rw [←hKk] at hmu ho2 eu es
  refine A10 (fs hk2 (fs hk3 eT)) ?_;try with_reducible exact tt
  refine CallS.pu (hrn) (R0 ?_);try with_reducible exact tt
  refine CallS.pu (hh) (R0 ?_);try with_reducible exact tt
  refine CallS.pu (hm) (R0 ?_);try with_reducible exact tt
  have eK:(K:Int)-k=(Kk:Int):=by omega
  have ek:(k:Int)+1=(k1:Int):=by omega
  refine CallS.g [1] (hadd) (R1 (fs es eu) ?_);try with_reducible exact tt
  refine A10 (fs es (fs eu eK)) ?_;try with_reducible exact tt
  refine CallS.pf 4 1 ⟨199,_⟩ [.int .u64 Kk] (ho2) (by first | rfl | (simp [eK];done)) (R1 eK ?_);try with_reducible exact tt
  refine CallS.pu (hmu) (R1 (fs ew eu2) ?_);try with_reducible exact tt
  refine A10 (fs ew (fs eu2 ek)) ?_;try with_reducible exact tt
  refine CallS.pf 5 1 ⟨199,_⟩ [.int .u64 k1] (ho3) (by first | rfl | (simp [ek];done)) (R1 ek ?_);try with_reducible exact tt
  refine CallS.pu (hdv) (R0 ?_);try with_reducible exact tt
  refine A10 (fs ew ek) ?_;try with_reducible exact tt
  refine ⟨k1,by omega,by omega,?_,?_⟩
  ·exact Sub1.int (by omega)
  ·rw [hk1,←hWN];exact ⟨Subs.refl _,Subs.refl _⟩
 ·have h2:k=K+1:=by omega
  subst h2
  have h3:¬(K:Int)+1≤K:=by omega
  have h4:((K+1:Nat):Int)=(K:Int)+1:=by omega
  have h5:¬K+1≤K:=by omega
  refine A10 (fs h3 (fs h4 h5)) ?_;try with_reducible exact tt
  exact Subs.refl _
end
end Go.Proofs.YtjbcbbfhcbnncaaGreatDoor.Am
