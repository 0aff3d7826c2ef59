/- Parts of the proof: ScH, ScJ, ScW, ScY, LwA, ScK, ScL, ScN, LwB, LwC, LwD, LwE, LwF, LwG, LwI, LwJ, TabS, StL. -/
import Derived.Test.YtdakiocgijlgiaaGreatDoorPd
set_option linter.unusedVariables false
set_option linter.unusedSimpArgs false
set_option maxRecDepth 100000
namespace Go.Proofs.YtdakiocgijlgiaaGreatDoor.Am
section
open Go.RowKit
theorem o_p1 (w:List Nat) (rest:List (List Nat)) (hw:WsOK (w::rest)) (h0:opN w≠0) (h1:opN w≠1) (h8:opN w≠8) (hl:(fldsN (opN w)).length≠rest.length) :
  Eqn Tryz.prog o_an [.d (.sl (rest.length+1) (.str (bst w)::strD rest))] [] (.tup [J8,.d (.bool false)]) []:=by
 refine Eqn.pure o_ap (o_og _) ?_
 refine cc (c':=?z269) ?_ ?_
 case refine_1=>cbv<;>exact rfl
 have ho:=o_ny w (hw.b w (by simp))
 have hk10:opN w<10:=(o_k1 w h0).2
 have hf:=o_nj { CmdM.zero with op:=opN w } .nilsl .nilsl (by unfold inR;simp only;omega)
 simp only [Int.toNat_natCast] at hf
 obtain ⟨hfn,hf4⟩:=o_on (opN w) hk10 h0 h1 h8
 replace hf:=hf hfn (by omega)
 generalize fldsN (opN w)=L at *
 have g0:¬((opN w:Nat):Int)=0:=by omega
 have g1:¬((opN w:Nat):Int)=1:=by omega
 have g8:¬((opN w:Nat):Int)=8:=by omega
 have h2:((rest.length:Int)+1-1).toNat=rest.length:=by omega
 have hl2:¬(L.length:Int)=rest.length:=by omega
 rw [o_ot] at hf
 simp only [cmdD,CmdM.zero,List.map_cons,List.map_nil] at hf
 generalize opN w=k at *
 refine A11 (fs g0 (fs g1 (fs g8 (fs h2 (fs h0 (fs h1 (fs h8 (fs hl2 hl)))))))) ho ?_;try with_reducible exact tt
 refine CallS.g [1] (hf) (R1 (fs hl2 hl) ?_);try with_reducible exact tt
 refine A10 (fs hl2 hl) ?_;try with_reducible exact tt
 exact o_of (sub8D _ rfl)
noncomputable def newF:List (List Nat)→V
 | []=>.tup [J8,.d (.bool false)]
 | s::r=>match readIs (s::r) with
  | some l=>.tup [.d (cmdA { CmdM.zero with op:=1,nums:=l }),.d (.bool true)]
  | none=>.tup [J8,.d (.bool false)]
theorem o_p2 {r:List (List Nat)} (h:readIs r=none):newF r = .tup [J8,.d (.bool false)]:=by
 cases r with
 | nil=>rfl
 | cons a b=>simp only [newF,h]
theorem o_p3 {r:List (List Nat)} {l:List Int} (h:readIs r=some l) (h0:r≠[]):newF r = .tup [.d (cmdA { CmdM.zero with op:=1,nums:=l }),.d (.bool true)]:=by
 cases r with
 | nil=>exact absurd rfl h0
 | cons a b=>simp only [newF,h]
def intD (l:List Int):List D:=l.map fun n:Int=>.int .i64 n
theorem o_p4:∀{s:List (List Nat)} {l:List Int} (x:List Nat),readIs s=some l→readIs (s++[x])=(readI x).map fun v=>l++[v]
 | [],l,x,h=>by
  cases h
  simp only [List.nil_append,readIs]
  cases readI x<;>rfl
 | a::r,l,x,h=>by
  simp only [List.cons_append,readIs] at h ⊢
  split at h
  ·rename_i v k h2 h3
   cases h
   rw [o_p4 x h3,h2]
   cases readI x<;>rfl
  ·cases h
theorem o_p5 {s:List (List Nat)}:∀{i:Nat},(h:i<s.length)→readI s[i]=none→readIs s=none:=by
 induction s with
 | nil=>intro i h;simp at h
 | cons a r ih =>
  intro i h h1
  cases i with
  | zero=>simp only [List.getElem_cons_zero] at h1;rw [readIs,h1]
  | succ i =>
   have:=ih (by simpa using h) (by simpa using h1)
   rw [readIs,this]
   split<;>simp_all
set_option maxHeartbeats 16000000 in
theorem o_p6 (w:List Nat) (rest:List (List Nat)) (hw:WsOK (w::rest)) (h:opN w=1) :
  Eqn Tryz.prog o_an [.d (.sl (rest.length+1) (.str (bst w)::strD rest))] [] (newF rest) []:=by
 refine Eqn.pure o_ap (by unfold newF;split;exact o_og _;split;exact o_d3 _ _;exact o_og _) ?_
 refine cc (c':=?z270) ?_ ?_
 case refine_1=>cbv<;>exact rfl
 have ho:=o_ny w (hw.b w (by simp))
 rw [h] at ho
 have h2:((rest.length:Int)+1-1).toNat=rest.length:=by omega
 have htk:(strD rest).take rest.length=strD rest:=List.take_of_length_le (by simp)
 have hn:=hw.n
 simp only [List.length_cons] at hn
 have hb1:8*(rest.length:Int)≤281474976710656:=by omega
 have hb2:(rest.length:Int)≤281474976710656:=by omega
 obtain ⟨tot,htot⟩:∃tot,tot=newF rest:=⟨_,rfl⟩
 rw [←htot]
 refine A11 (fs h2 (fs htk (fs hb1 hb2))) ho ?_;try with_reducible exact tt
 refine AW.loopE (α:=Nat×List Int) (fun s=>setS (List.replicate 93 .junk) [(2,.p 0 0),(4,.p 1 0),(5,.d (.sl rest.length (strD rest))),(31,.d (.sl rest.length (strD rest))),(32,.d (.int .i64 rest.length)),(33,.d (.int .i64 (s.1:Nat)))]) (fun s=>[some ⟨28,[.d (.int .i64 0),.d (.int .i64 0),.d (.int .i64 0),.d (.int .i64 0),.d (.int .i64 0),.d (.int .u64 0),.d .nilsl,.d .nilsl]⟩,some ⟨28,[.d (.int .i64 1),.d (.int .i64 0),.d (.int .i64 0),.d (.int .i64 0),.d (.int .i64 0),.d (.int .u64 0),.own 2 1 rest.length,.d .nilsl]⟩,some ⟨3,(intD s.2++List.replicate (rest.length-s.1) (D.int .i64 0)).map .d⟩]) (fun s=>s.1≤rest.length∧s.2.length=s.1∧readIs (rest.take s.1)=some s.2) (fun s=>rest.length-s.1) (0,[]) ?_ ⟨Nat.zero_le _,rfl,rfl⟩ ?_ ?_ ?_
 ·intro s _;exact Nat.zero_le _
 ·simp
 ·simp [intD]
  all_goals (rw [show List.replicate rest.length (V.d (D.int .i64 0))=(List.replicate rest.length (D.int .i64 0)).map .d by simp];exact o_6y _ _)
 rintro ⟨i,l⟩ ⟨hi,hll,hs⟩
 simp only at hi hll hs
 by_cases hir:i<rest.length
 ·have hi1:(i:Int)<rest.length:=by omega
  have hsg:(strD rest)[i]?.getD default = .str (bst rest[i]):=by
   rw [List.getElem?_eq_getElem (by simpa using hir),Option.getD_some];exact o_oh rest i hir
  have hsg2:=o_oh rest i hir
  have hwb:=hw.b (rest[i]) (by simp)
  have hwl:=hw.l (rest[i]) (by simp)
  have hsn:=o_p4 rest[i] hs
  rw [←List.take_succ_eq_append_getElem hir] at hsn
  have hno:=o_p5 hir
  generalize rest[i]=s at *
  have ew:IntKind.i64.wrap ((i:Int)+1)=(i:Int)+1:=w64 (by omega) (by omega)
  have hcl:(intD l++List.replicate (rest.length-i) (D.int .i64 0)).length=rest.length:=by simp [intD];omega
  obtain ⟨v,hv,hv2⟩:=o_nf 3 (by decide) (intD l++List.replicate (rest.length-i) (.int .i64 0)) i (by omega) s hwb (by omega)
  have hset:(intD l++List.replicate (rest.length-i) (D.int .i64 0)).set i (.int .i64 v)=intD (l++[v])++List.replicate (rest.length-(i+1)) (.int .i64 0):=by
   rw [show rest.length-i=(rest.length-(i+1))+1 by omega,List.replicate_succ,List.set_append_right _ _ (by simp [intD];omega)]
   simp [intD,hll]
  rw [hset] at hv
  generalize intD l++List.replicate (rest.length-i) (D.int .i64 0)=C1 at *
  obtain ⟨C2,hC2⟩:∃C2,C2=intD (l++[v])++List.replicate (rest.length-(i+1)) (D.int .i64 0):=⟨_,rfl⟩
  rw [←hC2] at hv
  have hm1:(C1.map V.d).length=rest.length:=by simp [hcl]
  simp
  cases hr:readI s with
  | none =>
   rw [hr] at hv
   have hn:tot = .tup [J8,.d (.bool false)]:=by rw [htot];exact o_p2 (hno hr)
   rw [hn]
   simp only [Option.isSome_none] at hv
   refine A10 (fs hi1 (fs hsg (fs hsg2 (fs hir hm1)))) ?_;try with_reducible exact tt
   refine CallS.g [2] (hv) (R1 (fs hi1 (fs hir hm1)) ?_);try with_reducible exact tt
   refine A00 ?_;try with_reducible exact tt
   exact o_of (sub8V _ rfl)
  | some u =>
   have hvu:=hv2 u hr
   subst hvu
   rw [hr] at hv hsn
   simp only [Option.isSome_some] at hv
   refine A10 (fs hi1 (fs hsg (fs hsg2 (fs hir hm1)))) ?_;try with_reducible exact tt
   refine CallS.g [2] (hv) (R1 (fs hi1 (fs hir hm1)) ?_);try with_reducible exact tt
   refine A10 ew ?_;try with_reducible exact tt
   refine ⟨i+1,l++[v],⟨by omega,by simp [hll],hsn⟩,by omega,by simp,?_⟩
   rw [hC2]
   have hlw:=o_6y 3 (intD (l++[v])++List.replicate (rest.length-(i+1)) (D.int .i64 0))
   simp only [List.map_append,List.map_replicate] at hlw
   simp [hlw]
 ·have hi0:i=rest.length:=by omega
  have hi1:¬(i:Int)<rest.length:=by omega
  rw [List.take_of_length_le (by omega)] at hs
  by_cases hr0:rest=[]
  ·have hn:tot = .tup [J8,.d (.bool false)]:=by rw [htot,hr0];rfl
   have hl0:rest.length=0:=by rw [hr0];rfl
   rw [hn]
   simp
   have hl1:¬0<rest.length:=by omega
   have hl2:(rest=[])↔True:=by simp [hr0]
   refine A10 (fs hi1 hl1) ?_;try with_reducible exact tt
   exact o_of (sub8V _ rfl)
  ·have hn:=o_p3 hs hr0
   rw [←htot] at hn
   have hl0:0<rest.length:=List.length_pos_iff.2 hr0
   have hlne:l≠[]:=by rintro rfl;simp at hll;omega
   have hc:cmdA { CmdM.zero with op:=1,nums:=l } = .agg [.int .i64 1,.int .i64 0,.int .i64 0,.int .i64 0,.int .i64 0,.int .u64 0,.sl rest.length (intD l),.nilsl]:=by
    unfold cmdA cmdD numsD;simp only;rw [if_neg hlne,show l.length=rest.length by omega];rfl
   rw [hc] at hn
   rw [hn]
   refine AW.freeze 2 1 ⟨3,(intD l++List.replicate (rest.length-i) (D.int .i64 0)).map .d⟩ (intD l) rfl (by rw [hi0];simp) ?_
   have htt:(intD l).take rest.length=intD l:=List.take_of_length_le (by simp [intD];omega)
   simp [htt]
   refine A10 (fs hi1 hl0) ?_;try with_reducible exact tt
   done
end
section
open Go.RowKit
def readF:Option CmdM→V
 | some c=>.tup [.d (cmdA c),.d (.bool true)]
 | none=>.tup [J8,.d (.bool false)]
theorem o_p7:∀(l:List FldM) (r:List (List Nat)) (c:CmdM),l.length≠r.length→setsF c l r=none
 | [],[],_,h=>absurd rfl h
 | [],_::_,_,_=>rfl
 | _::_,[],_,_=>rfl
 | f::l,s::r,c,h=>by
  rw [setsF]
  cases setF c s f with
  | none=>rfl
  | some d=>exact o_p7 l r d (by simpa using h)
theorem o_p8 {c d:CmdM} {s:List Nat} {f:FldM} (h:setF c s f=some d):d.nums=c.nums∧d.bytes=c.bytes:=by
 cases f<;>simp only [setF,Option.map_eq_some_iff] at h<;>obtain ⟨v,_,rfl⟩:=h<;>exact ⟨rfl,rfl⟩
theorem o_p9:∀(l:List FldM) (r:List (List Nat)) (c d:CmdM),setsF c l r=some d→d.nums=c.nums∧d.bytes=c.bytes
 | [],[],c,d,h=>by cases h;exact ⟨rfl,rfl⟩
 | [],_::_,c,d,h=>by cases h
 | _::_,[],c,d,h=>by cases h
 | f::l,s::r,c,d,h=>by
  rw [setsF,Option.bind_eq_some_iff] at h
  obtain ⟨e,h1,h2⟩:=h
  obtain ⟨i1,i2⟩:=o_p9 l r e d h2
  obtain ⟨j1,j2⟩:=o_p8 h1
  exact ⟨i1.trans j1,i2.trans j2⟩
theorem o_pa (ws:List (List Nat)) (hw:WsOK ws) (h0:ws≠[]):Eqn Tryz.prog o_an [.d (.sl ws.length (strD ws))] [] (readF (parseW ws)) []:=by
 cases ws with
 | nil=>exact absurd rfl h0
 | cons w rest =>
  show Eqn Tryz.prog o_an [.d (.sl (rest.length+1) (.str (bst w)::strD rest))] [] _ []
  rw [parseW]
  split
  ·rename_i h;exact o_oi w rest hw h
  rename_i h0
  split
  ·rename_i h1
   have e:readF (if rest=[] then none else (readIs rest).map fun l=>{ CmdM.zero with op:=1,nums:=l })=newF rest:=by
    cases rest with
    | nil=>rfl
    | cons a b =>
     rw [if_neg (by simp)]
     cases hq:readIs (a::b) with
     | none=>rw [o_p2 hq];rfl
     | some q=>rw [o_p3 hq (by simp)];rfl
   rw [e]
   exact o_p6 w rest hw h1
  rename_i h1
  split
  ·rename_i h8
   rcases rest with _ | ⟨s,_ | ⟨t,r⟩⟩
   ·exact o_oj w [] hw h8 (by simp)
   ·show Eqn Tryz.prog o_an [.d (.sl 2 [.str (bst w),.str (bst s)])] [] (readF (parse8 [s])) []
    rw [parse8]
    split
    ·rename_i hs;subst hs;exact o_ok w hw h8
    ·rename_i hs
     split
     ·rename_i h2;exact o_ol w s hw h8 hs (.inl h2)
     ·rename_i h2
      cases hu:unhexN s with
      | none=>exact o_ol w s hw h8 hs (.inr hu)
      | some b=>exact o_om w s b hw h8 h2 hu
   ·exact o_oj w (s::t::r) hw h8 (by simp)
  rename_i h8
  by_cases hl:(fldsN (opN w)).length=rest.length
  ·have h:=o_p0 w rest hw h0 h1 h8 hl
   cases hs:setsF { CmdM.zero with op:=opN w } (fldsN (opN w)) rest with
   | none=>rw [hs] at h;exact h
   | some c =>
    rw [hs] at h
    obtain ⟨e1,e2⟩:=o_p9 _ _ _ _ hs
    have e:cmdA c = .agg (cmdD c .nilsl .nilsl):=by unfold cmdA;rw [show c.nums=[] from e1,show c.bytes=[] from e2];rfl
    show Eqn Tryz.prog o_an _ [] (.tup [.d (cmdA c),.d (.bool true)]) []
    rw [e]
    exact h
  ·rw [o_p7 _ _ _ hl]
   exact o_p1 w rest hw h0 h1 h8 hl
def parseF:Option CmdM→V
 | some c=>.tup [.d (cmdA c),.d (.int .i64 0)]
 | none=>.tup [.d (cmdA CmdM.zero),.d (.int .i64 4)]
theorem o_pb {l:List Nat} (hl:∀x∈l,x<256) (hn:l.length≤900000):WsOK (spltN 32 l):=by
 refine ⟨fun w hw x hx=>hl x ((o_lu hw).2 x hx),fun w hw=>?_,?_⟩
 ·have h1:∀(ws:List (List Nat)),w∈ws→w.length≤(joinN 32 ws).length:=by
   intro ws
   induction ws with
   | nil=>intro h;simp at h
   | cons a r ih =>
    intro h
    cases r with
    | nil=>simp at h;subst h;simp [joinN]
    | cons b r =>
     rw [o_ln _ _ _ (by simp)]
     rcases List.mem_cons.1 h with rfl | h
     ·simp
     ·have:=ih h;simp at this ⊢;omega
  have:=h1 _ hw
  rw [o_ls] at this
  omega
 ·rw [o_lr]
  have:l.count 32≤l.length:=List.count_le_length
  omega
theorem o_pc (l:List Nat) (hl:∀x∈l,x<256) (hn:l.length≤900000):Eqn Tryz.prog o_a5 [.d (.str (bst l))] [] (parseF (parseM l)) []:=by
 refine Eqn.pure o_a7 (by unfold parseF;split<;>exact o_d3 _ _) ?_
 refine cc (c':=?z271) ?_ ?_
 case refine_1=>cbv<;>exact rfl
 have hsp:=o_mj 32 (by decide) l hl (by omega)
 have hr:=o_pa (spltN 32 l) (o_pb hl hn) (o_lo _ _)
 have hpm:parseM l=parseW (spltN 32 l):=rfl
 rw [hpm]
 generalize parseW (spltN 32 l)=tot at *
 generalize spltN 32 l=ws at *
 have hb:bst [32]=⟨#[32]⟩:=rfl
 rw [hb] at hsp
 have hsd:=o_m6 ws
 rw [hsd] at hsp
 have htk:(strD ws).take ws.length=strD ws:=List.take_of_length_le (by simp)
 refine A00 ?_;try with_reducible exact tt
 refine CallS.g [] (hsp) (R0 ?_);try with_reducible exact tt
 cases tot with
 | none =>
  replace hr:Eqn Tryz.prog o_an [.d (.sl ws.length (strD ws))] [] (.tup [.agg [.junk,.junk,.junk,.junk,.junk,.junk,.junk,.junk],.d (.bool false)]) []:=hr
  haveI hp:Plain (.tup [.agg [.junk,.junk,.junk,.junk,.junk,.junk,.junk,.junk],.d (.bool false)]):=⟨o_og false⟩
  unfold parseF cmdA CmdM.zero cmdD numsD bytesD
  refine CallS.pf 1 1 ⟨9,(strD ws).map .d⟩ (strD ws) (hr) (by first | rfl | (simp [htk];done)) (R1 htk ?_);try with_reducible exact tt
  refine A00 ?_;try with_reducible exact tt
 | some c =>
  unfold readF cmdA cmdD at hr
  unfold parseF cmdA cmdD
  refine CallS.pf 1 1 ⟨9,(strD ws).map .d⟩ (strD ws) (hr) (by first | rfl | (simp [htk];done)) (R1 htk ?_);try with_reducible exact tt
  refine A00 ?_;try with_reducible exact tt
end
section
open Go.RowKit
end
section
open Go.RowKit
theorem dec1 {n:Nat} (h:n<10):decN n=[48+n]:=by
 unfold decN ndig;rw [if_pos h];simp [padN];omega
theorem itoa1 {n:Nat} (h:n<10):itoaN (n:Int)=[48+n]:=by
 unfold itoaN;rw [if_neg (by omega)];exact dec1 h
def ca1:CmdM:=⟨1,0,0,0,0,0,[1,2,1,3],[]⟩
def ca2:CmdM:=⟨2,1,0,0,2,0,[],[]⟩
def ca3:CmdM:=⟨4,1,0,0,0,0,[],[]⟩
def li1:List Nat:=[110,101,119,32,49,32,50,32,49,32,51]
def li2:List Nat:=[97,100,100,32,49,32,48,32,50]
def li3:List Nat:=[113,117,101,114,121,32,49,32,48,32,48,32,48]
theorem o_pd (n:Nat) (h:n<1000):inR n:=by unfold inR;omega
theorem good1:ca1.Good:=⟨o_pd 1 (by omega),o_pd 0 (by omega),o_pd 0 (by omega),o_pd 0 (by omega),o_pd 0 (by omega),by decide,by unfold ca1 inR;decide,by simp [ca1]⟩
theorem good2:ca2.Good:=⟨o_pd 2 (by omega),o_pd 1 (by omega),o_pd 0 (by omega),o_pd 0 (by omega),o_pd 2 (by omega),by decide,by simp [ca2],by simp [ca2]⟩
theorem good3:ca3.Good:=⟨o_pd 4 (by omega),o_pd 1 (by omega),o_pd 0 (by omega),o_pd 0 (by omega),o_pd 0 (by omega),by decide,by simp [ca3],by simp [ca3]⟩
theorem i0:itoaN 0=[48]:=itoa1 (n:=0) (by omega)
theorem i1:itoaN 1=[49]:=itoa1 (n:=1) (by omega)
theorem i2:itoaN 2=[50]:=itoa1 (n:=2) (by omega)
theorem i3:itoaN 3=[51]:=itoa1 (n:=3) (by omega)
theorem d0:decN 0=[48]:=dec1 (n:=0) (by omega)
theorem wd1:textW ca1=[[110,101,119],[49],[50],[49],[51]]:=by
 show [110,101,119]::[itoaN 1,itoaN 2,itoaN 1,itoaN 3]=_
 rw [i1,i2,i3]
theorem wd2:textW ca2=[[97,100,100],[49],[48],[50]]:=by
 show [97,100,100]::[itoaN 1,itoaN 0,itoaN 2]=_
 rw [i1,i2,i0]
theorem wd3:textW ca3=[[113,117,101,114,121],[49],[48],[48],[48]]:=by
 show [113,117,101,114,121]::[itoaN 1,itoaN 0,decN 0,itoaN 0]=_
 rw [i1,i0,d0]
theorem pa1:parseM li1=some ca1:=by
 have:=o_ly good1
 rw [wd1,if_neg (by simp),show textM ca1=li1 by unfold textM;rw [wd1];rfl] at this
 exact this
theorem pa2:parseM li2=some ca2:=by
 have:=o_ly good2
 rw [wd2,if_neg (by simp),show textM ca2=li2 by unfold textM;rw [wd2];rfl] at this
 exact this
theorem pa3:parseM li3=some ca3:=by
 have:=o_ly good3
 rw [wd3,if_neg (by simp),show textM ca3=li3 by unfold textM;rw [wd3];rfl] at this
 exact this
theorem parse1:Eqn Tryz.prog o_a5 [.d (.str (bst li1))] [] (.tup [.d (cmG 1 0 0 (.sl 4 [.int .i64 1,.int .i64 2,.int .i64 1,.int .i64 3])),.d (.int .i64 0)]) []:=by
 have:=o_pc li1 (by decide) (by decide)
 rw [pa1] at this;exact this
theorem parse2:Eqn Tryz.prog o_a5 [.d (.str (bst li2))] [] (.tup [.d (cmG 2 1 2 .nilsl),.d (.int .i64 0)]) []:=by
 have:=o_pc li2 (by decide) (by decide)
 rw [pa2] at this;exact this
theorem parse3:Eqn Tryz.prog o_a5 [.d (.str (bst li3))] [] (.tup [.d (cmG 4 1 0 .nilsl),.d (.int .i64 0)]) []:=by
 have:=o_pc li3 (by decide) (by decide)
 rw [pa3] at this;exact this
def undV:V→D
 | .d x=>x
 | _=>.nilp
def txA:List Nat:=li1++10::(li2++10::(li3++[10]))
theorem spA:spltN 10 txA=[li1,li2,li3,[]]:=by decide
set_option maxHeartbeats 4000000 in
theorem o_pe:Eqn Tryz.prog o_a8 [.d (.str (bst txA)),.d .nilsl] [] (.d (.str (bst [111,107,32,49,10,111,107,10,50,10]))) []:=by
 refine Eqn.pure o_aa (o_6a _) ?_
 refine cc (c':=?z274) ?_ ?_
 case refine_1=>cbv<;>exact rfl
 have hbo:=o_mx
 have hd1:=o_my
 have hd2:=o_mz
 have hd3:=o_n2
 have ha1:=o_n0
 have ha2:=o_n1
 have ha3:=o_n3
 have hp1:=parse1
 have hp2:=parse2
 have hp3:=parse3
 unfold machG tapeE at hbo hd1 hd2 hd3
 have hsp:=o_mj 10 (by decide) txA (by decide) (by decide)
 rw [spA] at hsp
 have hb:bst [10]=⟨#[10]⟩:=rfl
 have hn:bst []=⟨#[]⟩:=rfl
 have hsv:strV [li1,li2,li3,[]]=[.d (.str (bst li1)),.d (.str (bst li2)),.d (.str (bst li3)),.d (.str ⟨#[]⟩)]:=rfl
 rw [hsv,hb] at hsp
 have e1:(⟨#[111,107,32,49]⟩:ByteArray)=bst [111,107,32,49]:=rfl
 have e2:(⟨#[111,107]⟩:ByteArray)=bst [111,107]:=rfl
 have e3:(⟨#[50]⟩:ByteArray)=bst [50]:=rfl
 rw [e1] at ha1
 rw [e2] at ha2
 rw [e3] at ha3
 have hu1:=o_n7 [] [111,107,32,49] (by simp)
 have hu2:=o_n7 [[111,107,32,49]] [111,107] (by simp)
 have hu3:=o_n7 [[111,107,32,49],[111,107]] [50] (by simp)
 have hfl:=o_na [[111,107,32,49],[111,107],[50]] (by simp) (by simp) (by simp [linesN])
 have hlN:linesN [[111,107,32,49],[111,107],[50]]=[111,107,32,49,10,111,107,10,50,10]:=rfl
 rw [hlN] at hfl
 have hst:=bstrB [.int .i64 64] [111,107,32,49,10,111,107,10,50,10] (by simp) (by simp) (by simp)
 simp only [boxZ,boxU,chO,byO,List.cons_append,List.nil_append,List.map_cons,List.map_nil,List.length_cons,List.length_nil,cmG,repG,rat0] at hfl hu1 hu2 hu3 hst hp1 hp2 hp3 hd1 hd2 hd3 ha1 ha2 ha3
 simp only [List.length_cons,List.length_nil] at hsp
 have hln:¬(65536:Int)<(bst txA).size:=by decide
 have z1:(bst li1).toList.isEmpty=false:=o_m4 li1
 have z2:(bst li2).toList.isEmpty=false:=o_m4 li2
 have z3:(bst li3).toList.isEmpty=false:=o_m4 li3
 generalize bst txA=tx at *
 generalize bst li1=l1 at *
 generalize bst li2=l2 at *
 generalize bst li3=l3 at *
 generalize bst [111,107,32,49]=a1 at *
 generalize bst [111,107]=a2 at *
 generalize bst [50]=a3 at *
 generalize [111,107,32,49,10,111,107,10,50,10]=rw at *
 obtain ⟨mc0,hm0⟩:∃l:List D,itZ++(itZ++repsL 15 itZ [])=l.map .d:=⟨(itZ++(itZ++repsL 15 itZ [])).map undV,rfl⟩
 obtain ⟨mc1,hm1⟩:∃l:List D,itZ++(itG 0++repsL 15 itZ [])=l.map .d:=⟨(itZ++(itG 0++repsL 15 itZ [])).map undV,rfl⟩
 obtain ⟨mc2,hm2⟩:∃l:List D,itZ++(itG 2++repsL 15 itZ [])=l.map .d:=⟨(itZ++(itG 2++repsL 15 itZ [])).map undV,rfl⟩
 rw [hm0] at hbo hd1
 rw [hm1] at hd1 hd2
 rw [hm2] at hd2 hd3
 refine A00 ?_;try with_reducible exact tt
 refine AW.scope ?_
 refine A10 hln ?_;try with_reducible exact tt
 refine CallS.g [] (hbo) (R0 ?_);try with_reducible exact tt
 refine A00 ?_;try with_reducible exact tt
 refine CallS.g [] (hsp) (R0 ?_);try with_reducible exact tt
 refine A00 ?_;try with_reducible exact tt
 refine AW.rounds 6 (AWu.next ?_)
 refine A11 z1 hp1 ?_;try with_reducible exact tt
 refine CallS.g [2,3] (hd1) (R0 ?_);try with_reducible exact tt
 refine A01 ha1 ?_;try with_reducible exact tt
 refine CallS.g [1,0] (hu1) (R0 ?_);try with_reducible exact tt
 refine A11 z2 hp2 ?_;try with_reducible exact tt
 refine CallS.g [2,3] (hd2) (R0 ?_);try with_reducible exact tt
 refine A01 ha2 ?_;try with_reducible exact tt
 refine CallS.g [1,0] (hu2) (R0 ?_);try with_reducible exact tt
 refine A11 z3 hp3 ?_;try with_reducible exact tt
 refine CallS.g [2,3] (hd3) (R0 ?_);try with_reducible exact tt
 refine A01 ha3 ?_;try with_reducible exact tt
 refine CallS.g [1,0] (hu3) (R0 ?_);try with_reducible exact tt
 refine A00 ?_;try with_reducible exact tt
 refine CallS.g [1,0] (hfl) (R0 ?_);try with_reducible exact tt
 refine A00 ?_;try with_reducible exact tt
 refine CallS.g [1,0,8] (hst) (R0 ?_);try with_reducible exact tt
theorem o_pf:Eqn Tryz.prog o_b0 [] [] (.d (.bool true)) []:=by
 refine Eqn.pure o_b2 (o_6a _) ?_
 have h:=o_pe
 refine cc (c':=?z275) ?_ ?_
 case refine_1=>cbv<;>exact rfl
 have e1:bst txA=⟨#[110,101,119,32,49,32,50,32,49,32,51,10,97,100,100,32,49,32,48,32,50,10,113,117,101,114,121,32,49,32,48,32,48,32,48,10]⟩:=rfl
 have e2:bst [111,107,32,49,10,111,107,10,50,10]=⟨#[111,107,32,49,10,111,107,10,50,10]⟩:=rfl
 rw [e1,e2] at h
 refine A01 h ?_;try with_reducible exact tt
end
section
open Go.RowKit
theorem o_pg (n:Nat) (h0:0<n) (h:n≤9223372036854775808):Eqn Tryz.prog o_ci [.d (.int .i64 (-(n:Int)))] [] (.d (zW 0 n)) []:=by
 refine Eqn.pure o_ck Plain.ok ?_
 have h1:=o_g4 n (by omega)
 have e0:IntKind.i64.wrap (-(n:Int)+1) = -(n:Int)+1:=w64 (by omega) (by omega)
 have e4:IntKind.i64.wrap (-(-(n:Int)+1))=(n:Int)-1:=by rw [w64 (by omega) (by omega)];omega
 have e5:IntKind.i64.wrap (-1+(n:Int))=(n:Int)-1:=by rw [w64 (by omega) (by omega)];omega
 have e1:IntKind.u64.wrap ((n:Int)-1)=(n:Int)-1:=by rw [IntKind.wrap_u64];omega
 have e6:IntKind.u64.wrap ((n:Int)-1+1)=n:=by rw [IntKind.wrap_u64];omega
 have e7:IntKind.u64.wrap (n:Int)=n:=by rw [IntKind.wrap_u64];omega
 have e2:¬(0:Int)≤-(n:Int):=by omega
 have e3:¬n=0:=by omega
 refine cc (c':=?z276) ?_ ?_
 case refine_1=>cbv<;>exact rfl
 try simp only [zW]
 rw [o_fn]
 generalize qN:nD n=N at *
 obtain ⟨nN,lN,rfl⟩:∃n l,N=D.sl n l:=⟨_,_,qN.symm⟩
 clear qN
 refine A10 (fs e0 (fs e4 (fs e5 (fs e1 (fs e6 (fs e7 (fs e2 e3))))))) ?_;try with_reducible exact tt
 refine CallS.pf 1 1 ⟨24,[.d (.int .u64 n)]⟩ [.int .u64 n] (h1) (by first | rfl | (simp [e0,e1,e2,e3];done)) (R1 (fs e0 (fs e1 (fs e2 e3))) ?_);try with_reducible exact tt
 exact Sub1.aggd (Subs.cons Sub1.nil (Subs.cons (Sub1.refl _) (Subs.refl _)))
theorem o_ph (n:Nat) (h:n<18446744073709551616):Eqn Tryz.prog o_cc [.d (.bool false),.d (.sl 1 [.int .u64 n])] [] (.d (zW n 0)) []:=by
 refine Eqn.pure o_ce Plain.ok ?_
 have h1:=o_g4 n (by omega)
 refine cc (c':=?z277) ?_ ?_
 case refine_1=>cbv<;>exact rfl
 try simp only [zW]
 rw [o_fn]
 generalize qN:nD n=N at *
 obtain ⟨nN,lN,rfl⟩:∃n l,N=D.sl n l:=⟨_,_,qN.symm⟩
 clear qN
 refine A01 h1 ?_;try with_reducible exact tt
 exact Sub1.aggd (Subs.cons (Sub1.refl _) (Subs.cons Sub1.nil (Subs.refl _)))
theorem o_pi (p m:Nat) (h1:p<2^64) (h2:m<2^64):Eqn Tryz.prog o_cl [.d (zW p m)] [] (.d (.str (bst (itoaN ((p:Int)-m))))) []:=by
 refine Eqn.pure o_cn (o_6a _) ?_
 have a1:=o_g7 p m 64 (by omega) h1 h2
 have a2:=o_g8 p m 64 (by omega) h1 h2
 have a3:=o_gk ((p:Int)-m).natAbs (by
  have:((p:Int)-m).natAbs<2^64:=by omega
  exact sizeB this (by omega))
 have hr:bst (itoaN ((p:Int)-m))=if p<m then ⟨#[45]⟩++txt ((p:Int)-m).natAbs else txt ((p:Int)-m).natAbs:=by
  unfold itoaN
  by_cases h:p<m
  ·rw [if_pos h,if_pos (by omega)]
   show bst ([45]++_)=_
   rw [←o_dn];rfl
  ·rw [if_neg h,if_neg (by omega)];rfl
 rw [hr]
 have hsz:(⟨#[45]⟩:ByteArray).size+(txt ((p:Int)-m).natAbs).size≤9223372036854775807:=by
  have:=o_g6 (n:=((p:Int)-m).natAbs) (E:=64) (by omega) (by omega)
  show 1+_≤_
  omega
 refine cc (c':=?z278) ?_ ?_
 case refine_1=>cbv<;>exact rfl
 try simp only [zW] at a1 a2 ⊢
 generalize txt ((p:Int)-m).natAbs=tx at *
 generalize qD2:nD ((p:Int)-m).natAbs=D2 at *
 generalize qD3:nD p=D3 at *
 obtain ⟨nD3,lD3,rfl⟩:∃n l,D3=D.sl n l:=⟨_,_,qD3.symm⟩
 clear qD3
 generalize qD4:nD m=D4 at *
 obtain ⟨nD4,lD4,rfl⟩:∃n l,D4=D.sl n l:=⟨_,_,qD4.symm⟩
 clear qD4
 by_cases h:p<m
 ·rw [if_pos h]
  simp only [h,decide_true] at a1
  refine A13 hsz a1 a2 a3 ?_;try with_reducible exact tt
 ·rw [if_neg h]
  simp only [h,decide_false] at a1
  refine A03 a1 a2 a3 ?_;try with_reducible exact tt
theorem o_pj (v:Int) (hv:inR v):Eqn Tryz.prog o_b9 [.d (.int .i64 v)] [] (.d (.str (bst (itoaN v)))) []:=by
 refine Eqn.pure o_bb (o_6a _) ?_
 refine cc (c':=?z279) ?_ ?_
 case refine_1=>cbv<;>exact rfl
 unfold inR at hv
 rcases Int.lt_or_le v 0 with h | h
 ·obtain ⟨n,rfl⟩:∃n:Nat,v = -(n:Int):=⟨v.natAbs,by omega⟩
  have h1:=o_pg n (by omega) (by omega)
  have h2:=o_pi 0 n (by omega) (by omega)
  rw [show ((0:Nat):Int)-(n:Int) = -(n:Int) by omega] at h2
  generalize bst (itoaN (-(n:Int)))=tx at *
  generalize zW 0 n=z at *
  refine A02 h1 h2 ?_;try with_reducible exact tt
 ·obtain ⟨n,rfl⟩:∃n:Nat,v=(n:Int):=⟨v.toNat,by omega⟩
  have h1:=o_g9 n (by omega)
  have h2:=o_pi n 0 (by omega) (by omega)
  rw [show (n:Int)-((0:Nat):Int)=(n:Int) by omega] at h2
  generalize bst (itoaN (n:Int))=tx at *
  generalize zW n 0=z at *
  refine A02 h1 h2 ?_;try with_reducible exact tt
theorem o_pk (n:Nat) (h:n<18446744073709551616):Eqn Tryz.prog o_b6 [.d (.int .u64 n)] [] (.d (.str (bst (decN n)))) []:=by
 refine Eqn.pure o_b8 (o_6a _) ?_
 refine cc (c':=?z280) ?_ ?_
 case refine_1=>cbv<;>exact rfl
 have h1:=o_ph n h
 have h2:=o_pi n 0 (by omega) (by omega)
 rw [show itoaN ((n:Int)-((0:Nat):Int))=decN n by unfold itoaN;rw [if_neg (by omega)];congr 1] at h2
 generalize bst (decN n)=tx at *
 generalize zW n 0=z at *
 refine A00 ?_;try with_reducible exact tt
 refine CallS.pf 0 1 ⟨24,[.d (.int .u64 n)]⟩ [.int .u64 n] (h1) (by first | rfl | (simp;done)) (R0 ?_);try with_reducible exact tt
 refine A01 h2 ?_;try with_reducible exact tt
end
section
open Go.RowKit
def byD (l:List Nat):List D:=l.map fun n:Nat=>.int .u8 n
def SlI (N:D) (l:List Int):Prop:=N = .sl l.length (intD l)∨(l=[]∧N = .nilsl)
def SlB (B:D) (l:List Nat):Prop:=B = .sl l.length (byD l)∨(l=[]∧B = .nilsl)
theorem SlI.len {N:D} {l:List Int} (h:SlI N l):lenV (.d N)=some (l.length:Int):=by
 rcases h with rfl | ⟨rfl,rfl⟩<;>rfl
theorem SlB.len {N:D} {l:List Nat} (h:SlB N l):lenV (.d N)=some (l.length:Int):=by
 rcases h with rfl | ⟨rfl,rfl⟩<;>rfl
theorem o_pl:∀ws:List (List Nat),Lib.join (ws.map u8l) (u8l [32])=u8l (joinN 32 ws)
 | []=>rfl
 | [w]=>by simp [Lib.join,List.intercalate,joinN]
 | w::v::r=>by
  have ih:=o_pl (v::r)
  rw [List.map_cons,Lib.join_cons] at ih
  rw [List.map_cons,Lib.join_cons,List.map_cons,joinN,o_kb]
  show u8l w++Lib.joinTail [32] (u8l v::r.map u8l)=_
  have e:Lib.joinTail [32] (u8l v::r.map u8l)=32::(u8l v++Lib.joinTail [32] (r.map u8l)):=by simp [Lib.joinTail]
  rw [e]
  congr 1
  show 32::(u8l v++Lib.joinTail (u8l [32]) (r.map u8l))=_
  rw [ih]
  rfl
theorem o_pm (ws:List (List Nat)) (hn:ws.length≤1000000) (hl:(joinN 32 ws).length≤100000000) :
  Eqn Tryz.prog o_9s [.d (.sl ws.length (strD ws)),.d (.str ⟨#[32]⟩)] [] (.d (.str (bst (joinN 32 ws)))) []:=by
 have h:=o_l5 (ws.map bst) (bst [32]) (by simp;omega) ?_
 ·have e1:(ws.map bst).map (fun x=>x.data.toList)=ws.map u8l:=by rw [List.map_map];rfl
  have e2:(bst [32]).data.toList=u8l [32]:=rfl
  rw [e1,e2,o_pl] at h
  have e3:(ws.map bst).map D.str=strD ws:=by rw [List.map_map];rfl
  rw [e3,List.length_map] at h
  exact h
 ·have e1:(ws.map bst).map (fun x=>x.data.toList)=ws.map u8l:=by rw [List.map_map];rfl
  have e2:(bst [32]).data.toList=u8l [32]:=rfl
  rw [e1,e2,o_pl]
  unfold u8l
  rw [List.length_map];omega
theorem o_pn (a b:List (List Nat)):strV (a++b)=strV a++strV b:=by simp [strV]
theorem o_po (c:CmdM) (N B:D) (hc:inR c.op) (h:wordN c.op=[]):Eqn Tryz.prog o_ab [.d (.agg (cmdD c N B))] [] (.d (.str (bst []))) []:=by
 rw [show bst []=⟨#[]⟩ from rfl]
 refine Eqn.pure o_ad (o_6a _) ?_
 refine cc (c':=?z281) ?_ ?_
 case refine_1=>cbv<;>exact rfl
 try simp only [cmdD]
 have hw:=o_ne c.op hc
 rw [h] at hw
 have he:=o_m4 []
 generalize bst []=z at *
 have he2:z.toList.isEmpty=true:=he
 refine A11 he2 hw ?_;try with_reducible exact tt
set_option maxHeartbeats 16000000 in
theorem o_pp (c:CmdM) (N B:D) (hc:c.Good) (hN:SlI N c.nums) (hB:SlB B c.bytes) (hw0:wordN c.op≠[]) (h1:c.op≠1) (h8:c.op≠8) (hlen:(joinN 32 (wordN c.op::(fldsN c.op.toNat).map (getF c))).length≤100000000) :
  Eqn Tryz.prog o_ab [.d (.agg (cmdD c N B))] [] (.d (.str (bst (joinN 32 (wordN c.op::(fldsN c.op.toNat).map (getF c)))))) []:=by
 refine Eqn.pure o_ad (o_6a _) ?_
 refine cc (c':=?z282) ?_ ?_
 case refine_1=>cbv<;>exact rfl
 have hw:=o_ne c.op hc.op
 obtain ⟨k,hk,hk0,hk10,hwk⟩:=o_k7 hw0
 have hkn:c.op.toNat=k:=by omega
 have hf:=o_nj c N B hc.op
 rw [hkn] at hf
 obtain ⟨hfn,hf4⟩:=o_on k hk10 (by omega) (by omega) (by omega)
 replace hf:=hf hfn (by omega)
 rw [o_ot] at hf
 rw [hkn] at hlen ⊢
 generalize fldsN k=L at *
 have hj:=o_pm (wordN c.op::L.map (getF c)) (by simp;omega) hlen
 have hwe:(bst (wordN c.op)).toList.isEmpty=false:=by rw [o_m4];cases hq:wordN c.op with
  | nil=>exact absurd hq hw0
  | cons a b=>rfl
 generalize joinN 32 (wordN c.op::L.map (getF c))=res at *
 generalize hwo:wordN c.op=w at *
 have g1:(c.op==1)=false:=by simpa using h1
 have g8:(c.op==8)=false:=by simpa using h8
 simp only [cmdD,List.map_cons,List.map_nil] at hf ⊢
 refine A11 (fs hwe (fs h1 h8)) hw ?_;try with_reducible exact tt
 refine CallS.g [0] (hf) (R0 ?_);try with_reducible exact tt
 refine AW.loopG (α:=Nat) (fun i=>setS (List.replicate 82 .junk) [(1,.p 0 0),(3,.own 1 1 (i+1)),(68,.own 2 2 L.length),(69,.d (.int .i64 L.length)),(70,.d (.int .i64 (i:Nat)))]) (fun i=>[some ⟨28,[.d (.int .i64 c.op),.d (.int .i64 c.h),.d (.int .i64 c.o),.d (.int .i64 c.i),.d (.int .i64 c.n),.d (.int .u64 c.key),.d N,.d B]⟩,some ⟨9,strV (w::(L.map (getF c)).take i)⟩,some ⟨87,fldsW 0 L⟩]) (fun i=>i≤L.length) (fun i=>L.length-i) 0 ?_ (Nat.zero_le _) ?_ ?_ ?_
 ·intro i _;exact Nat.zero_le _
 ·simp
 ·simp [strV,o_ox]
 rintro i hi
 by_cases hiL:i<L.length
 ·have hi1:(i:Int)<L.length:=by omega
  have hg:=o_oy 0 i L hiL
  have hsn:strV (w::(L.map (getF c)).take (i+1))=strV ((w::(L.map (getF c)).take i)++[getF c L[i]]):=by
   rw [List.take_succ_eq_append_getElem (by simpa using hiL),List.getElem_map];rfl
  have hlr:(strV (w::(L.map (getF c)).take i)).length=i+1:=by simp;omega
  have hbd:i*2+2≤L.length*2:=by omega
  have hk2:(i+1+1)*16≤140737488355328:=by omega
  have ew:IntKind.i64.wrap ((i:Int)+1)=(i:Int)+1:=w64 (by omega) (by omega)
  generalize w::(L.map (getF c)).take i=RW at *
  generalize L[i]=f at *
  cases f with
  | h =>
   have ht:=o_nh 28 (by decide) (cmdD c N B) 1 c.h hc.h rfl
   simp only [fldW,offF] at hg
   have hgf:getF c .h=itoaN c.h:=rfl
   rw [hgf] at hsn
   generalize itoaN c.h=tx at *
   simp only [cmdD,List.map_cons,List.map_nil] at ht
   simp
   refine A10 (fs hi1 (fs hg hbd)) ?_;try with_reducible exact tt
   refine CallS.g [0] (ht) (R1 (fs hi1 (fs hlr hk2)) ?_);try with_reducible exact tt
   refine A10 ew ?_;try with_reducible exact tt
   refine ⟨i+1,1,5,by simp,by omega,by omega,?_,?_⟩
   ·simp [swT,swH,sw,Ob.sw,V.ren,V.rens]
   ·simp [swT,swH,sw,Ob.sw,V.ren,V.rens,o_ox]
    rw [hsn,show strV RW++[V.d (.str (bst tx))]=strV (RW++[tx]) from (o_pn RW [tx]).symm];first | exact Subs.refl _ | (rw [o_m7];exact Subs.refl _)
  | o =>
   have ht:=o_nh 28 (by decide) (cmdD c N B) 2 c.o hc.o rfl
   simp only [fldW,offF] at hg
   have hgf:getF c .o=itoaN c.o:=rfl
   rw [hgf] at hsn
   generalize itoaN c.o=tx at *
   simp only [cmdD,List.map_cons,List.map_nil] at ht
   simp
   refine A10 (fs hi1 (fs hg hbd)) ?_;try with_reducible exact tt
   refine CallS.g [0] (ht) (R1 (fs hi1 (fs hlr hk2)) ?_);try with_reducible exact tt
   refine A10 ew ?_;try with_reducible exact tt
   refine ⟨i+1,1,5,by simp,by omega,by omega,?_,?_⟩
   ·simp [swT,swH,sw,Ob.sw,V.ren,V.rens]
   ·simp [swT,swH,sw,Ob.sw,V.ren,V.rens,o_ox]
    rw [hsn,show strV RW++[V.d (.str (bst tx))]=strV (RW++[tx]) from (o_pn RW [tx]).symm];first | exact Subs.refl _ | (rw [o_m7];exact Subs.refl _)
  | i =>
   have ht:=o_nh 28 (by decide) (cmdD c N B) 3 c.i hc.i rfl
   simp only [fldW,offF] at hg
   have hgf:getF c .i=itoaN c.i:=rfl
   rw [hgf] at hsn
   generalize itoaN c.i=tx at *
   simp only [cmdD,List.map_cons,List.map_nil] at ht
   simp
   refine A10 (fs hi1 (fs hg hbd)) ?_;try with_reducible exact tt
   refine CallS.g [0] (ht) (R1 (fs hi1 (fs hlr hk2)) ?_);try with_reducible exact tt
   refine A10 ew ?_;try with_reducible exact tt
   refine ⟨i+1,1,5,by simp,by omega,by omega,?_,?_⟩
   ·simp [swT,swH,sw,Ob.sw,V.ren,V.rens]
   ·simp [swT,swH,sw,Ob.sw,V.ren,V.rens,o_ox]
    rw [hsn,show strV RW++[V.d (.str (bst tx))]=strV (RW++[tx]) from (o_pn RW [tx]).symm];first | exact Subs.refl _ | (rw [o_m7];exact Subs.refl _)
  | n =>
   have ht:=o_nh 28 (by decide) (cmdD c N B) 4 c.n hc.n rfl
   simp only [fldW,offF] at hg
   have hgf:getF c .n=itoaN c.n:=rfl
   rw [hgf] at hsn
   generalize itoaN c.n=tx at *
   simp only [cmdD,List.map_cons,List.map_nil] at ht
   simp
   refine A10 (fs hi1 (fs hg hbd)) ?_;try with_reducible exact tt
   refine CallS.g [0] (ht) (R1 (fs hi1 (fs hlr hk2)) ?_);try with_reducible exact tt
   refine A10 ew ?_;try with_reducible exact tt
   refine ⟨i+1,1,5,by simp,by omega,by omega,?_,?_⟩
   ·simp [swT,swH,sw,Ob.sw,V.ren,V.rens]
   ·simp [swT,swH,sw,Ob.sw,V.ren,V.rens,o_ox]
    rw [hsn,show strV RW++[V.d (.str (bst tx))]=strV (RW++[tx]) from (o_pn RW [tx]).symm];first | exact Subs.refl _ | (rw [o_m7];exact Subs.refl _)
  | key =>
   have ht:=o_ni 28 (by decide) (cmdD c N B) 5 c.key hc.key rfl
   simp only [fldW,offF] at hg
   have hgf:getF c .key=decN c.key:=rfl
   rw [hgf] at hsn
   generalize decN c.key=tx at *
   simp only [cmdD,List.map_cons,List.map_nil] at ht
   simp
   refine A10 (fs hi1 (fs hg hbd)) ?_;try with_reducible exact tt
   refine CallS.g [0] (ht) (R1 (fs hi1 (fs hlr hk2)) ?_);try with_reducible exact tt
   refine A10 ew ?_;try with_reducible exact tt
   refine ⟨i+1,1,5,by simp,by omega,by omega,?_,?_⟩
   ·simp [swT,swH,sw,Ob.sw,V.ren,V.rens]
   ·simp [swT,swH,sw,Ob.sw,V.ren,V.rens,o_ox]
    rw [hsn,show strV RW++[V.d (.str (bst tx))]=strV (RW++[tx]) from (o_pn RW [tx]).symm];first | exact Subs.refl _ | (rw [o_m7];exact Subs.refl _)
 ·have hi0:i=L.length:=by omega
  have hi1:¬(i:Int)<L.length:=by omega
  have htt:w::(L.map (getF c)).take i=w::L.map (getF c):=by rw [List.take_of_length_le (by simp;omega)]
  rw [htt,hi0] at *
  have htk:(strD (w::L.map (getF c))).take (L.length+1)=strD (w::L.map (getF c)):=List.take_of_length_le (by simp)
  have hll:(w::L.map (getF c)).length=L.length+1:=by simp
  rw [hll] at hj
  generalize w::L.map (getF c)=WS at *
  have hi2:¬(L.length:Int)<L.length:=by omega
  have hsd:=o_m6 WS
  simp [hsd]
  refine A00 ?_;try with_reducible exact tt
  refine CallS.pf 1 1 ⟨9,(strD WS).map .d⟩ (strD WS) (hj) (by first | rfl | (simp [htk];done)) (R1 htk ?_);try with_reducible exact tt
end
section
open Go.RowKit
theorem SlB.sl {B:D} {l:List Nat} (h:SlB B l) (h0:l≠[]):B = .sl l.length (byD l):=by
 rcases h with h | ⟨h,_⟩
 ·exact h
 ·exact absurd h h0
theorem SlI.sl {B:D} {l:List Int} (h:SlI B l) (h0:l≠[]):B = .sl l.length (intD l):=by
 rcases h with h | ⟨h,_⟩
 ·exact h
 ·exact absurd h h0
set_option maxHeartbeats 16000000 in
theorem o_pq (c:CmdM) (N B:D) (hc:c.Good) (hN:SlI N c.nums) (hB:SlB B c.bytes) (h8:c.op=8) (hlen:c.bytes.length≤1000000) :
  Eqn Tryz.prog o_ab [.d (.agg (cmdD c N B))] [] (.d (.str (bst (joinN 32 [wordN c.op,if c.bytes=[] then [45] else hexN c.bytes])))) []:=by
 refine Eqn.pure o_ad (o_6a _) ?_
 refine cc (c':=?z283) ?_ ?_
 case refine_1=>cbv<;>exact rfl
 have hw:=o_ne c.op hc.op
 have hf:=o_nk c N B hc.op (by rw [h8];decide)
 have hwo:wordN c.op=[100,101,99,111,100,101]:=by rw [h8];rfl
 rw [hwo] at hw ⊢
 rw [h8] at hw
 have hwe:(bst [100,101,99,111,100,101]).toList.isEmpty=false:=by rw [o_m4];rfl
 obtain ⟨tx,htx⟩:∃tx,tx=if c.bytes=[] then [45] else hexN c.bytes:=⟨_,rfl⟩
 rw [←htx]
 have htl:tx.length≤3000000:=by
  rw [htx];split
  ·simp
  ·rw [o_o3];omega
 have hj:=o_pm [[100,101,99,111,100,101],tx] (by simp) (by simp [joinN];omega)
 generalize joinN 32 [[100,101,99,111,100,101],tx]=res at *
 generalize hwz:bst [100,101,99,111,100,101]=w at *
 simp only [cmdD,List.map_cons,List.map_nil,h8] at hf ⊢
 have hj2:Eqn Tryz.prog o_9s [.d (.sl 2 [.str w,.str (bst tx)]),.d (.str ⟨#[32]⟩)] [] (.d (.str (bst res))) []:=by
  rw [←hwz];exact hj
 by_cases hb:c.bytes=[]
 ·have htx2:tx=[45]:=by rw [htx,if_pos hb]
  have hB2:B = .sl 0 []∨B = .nilsl:=by
   rcases hB with h | ⟨_,h⟩
   ·left;rw [h,hb];rfl
   ·exact .inr h
  rw [htx2] at hj2
  have h45:bst [45]=⟨#[45]⟩:=rfl
  rw [h45] at hj2
  rcases hB2 with rfl | rfl
  ·refine A11 hwe hw ?_;try with_reducible exact tt
   refine CallS.g [0] (hf) (R1 hwe ?_);try with_reducible exact tt
   refine AW.loopE (α:=Unit) (fun _=>setS (List.replicate 82 .junk) [(3,.own 3 1 2),(69,.d (.int .i64 0)),(70,.d (.int .i64 0))]) (fun _=>[none,none,none,some ⟨9,[.d (.str w),.d (.str ⟨#[45]⟩)]⟩]) (fun _=>True) (fun _=>0) () ?_ trivial ?_ ?_ ?_
   ·intro i _;exact Nat.zero_le _
   ·simp
   ·simp
   rintro _ _
   simp
   refine A00 ?_;try with_reducible exact tt
   refine CallS.pf 3 1 ⟨9,[.d (.str w),.d (.str ⟨#[45]⟩)]⟩ [.str w,.str ⟨#[45]⟩] (hj2) (by first | rfl | (simp;done)) (R0 ?_);try with_reducible exact tt
  ·refine A11 hwe hw ?_;try with_reducible exact tt
   refine CallS.g [0] (hf) (R1 hwe ?_);try with_reducible exact tt
   refine AW.loopE (α:=Unit) (fun _=>setS (List.replicate 82 .junk) [(3,.own 3 1 2),(69,.d (.int .i64 0)),(70,.d (.int .i64 0))]) (fun _=>[none,none,none,some ⟨9,[.d (.str w),.d (.str ⟨#[45]⟩)]⟩]) (fun _=>True) (fun _=>0) () ?_ trivial ?_ ?_ ?_
   ·intro i _;exact Nat.zero_le _
   ·simp
   ·simp
   rintro _ _
   simp
   refine A00 ?_;try with_reducible exact tt
   refine CallS.pf 3 1 ⟨9,[.d (.str w),.d (.str ⟨#[45]⟩)]⟩ [.str w,.str ⟨#[45]⟩] (hj2) (by first | rfl | (simp;done)) (R0 ?_);try with_reducible exact tt
 ·have htx2:tx=hexN c.bytes:=by rw [htx,if_neg hb]
  have hBs:=hB.sl hb
  have hh:=o_o7 c.bytes hc.bytes hb (by omega)
  have hbl:¬c.bytes.length=0:=by have:=List.length_pos_iff.2 hb;omega
  have hbe:byD c.bytes=c.bytes.map fun n:Nat=>D.int .u8 n:=rfl
  rw [hBs] at hf ⊢
  rw [←hbe,←htx2] at hh
  refine A12 (fs hwe (fs hbl hb)) hw hh ?_;try with_reducible exact tt
  refine CallS.g [0] (hf) (R1 (fs hwe (fs hbl hb)) ?_);try with_reducible exact tt
  refine AW.loopE (α:=Unit) (fun _=>setS (List.replicate 82 .junk) [(3,.own 3 1 2),(69,.d (.int .i64 0)),(70,.d (.int .i64 0))]) (fun _=>[none,none,none,some ⟨9,[.d (.str w),.d (.str (bst tx))]⟩]) (fun _=>True) (fun _=>0) () ?_ trivial ?_ ?_ ?_
  ·intro i _;exact Nat.zero_le _
  ·simp
  ·simp
  rintro _ _
  simp
  refine A00 ?_;try with_reducible exact tt
  refine CallS.pf 3 1 ⟨9,[.d (.str w),.d (.str (bst tx))]⟩ [.str w,.str (bst tx)] (hj2) (by first | rfl | (simp;done)) (R0 ?_);try with_reducible exact tt
end
section
open Go.RowKit
theorem o_pr (c:CmdM) (N B:D) (hc:c.Good) (hN:SlI N c.nums) (h1:c.op=1) (h0:c.nums=[]):Eqn Tryz.prog o_ab [.d (.agg (cmdD c N B))] [] (.d (.str (bst []))) []:=by
 rw [show bst []=⟨#[]⟩ from rfl]
 have hw:=o_ne c.op hc.op
 have hwo:wordN c.op=[110,101,119]:=by rw [h1];rfl
 rw [hwo,h1] at hw
 have hwe:(bst [110,101,119]).toList.isEmpty=false:=by rw [o_m4];rfl
 generalize hwz:bst [110,101,119]=w at *
 have hB2:N = .sl 0 []∨N = .nilsl:=by
  rcases hN with h | ⟨_,h⟩
  ·left;rw [h,h0];rfl
  ·exact .inr h
 rcases hB2 with rfl | rfl
 ·refine Eqn.pure o_ad (o_6a _) ?_
  refine cc (c':=?z284) ?_ ?_
  case refine_1=>cbv<;>exact rfl
  try simp only [cmdD,h1]
  refine A11 hwe hw ?_;try with_reducible exact tt
 ·refine Eqn.pure o_ad (o_6a _) ?_
  refine cc (c':=?z285) ?_ ?_
  case refine_1=>cbv<;>exact rfl
  try simp only [cmdD,h1]
  refine A11 hwe hw ?_;try with_reducible exact tt
set_option maxHeartbeats 16000000 in
theorem o_ps (c:CmdM) (N B:D) (hc:c.Good) (hN:SlI N c.nums) (h1:c.op=1) (h0:c.nums≠[]) (hn:c.nums.length≤100000) (hlen:(joinN 32 (wordN c.op::c.nums.map itoaN)).length≤100000000) :
  Eqn Tryz.prog o_ab [.d (.agg (cmdD c N B))] [] (.d (.str (bst (joinN 32 (wordN c.op::c.nums.map itoaN))))) []:=by
 refine Eqn.pure o_ad (o_6a _) ?_
 refine cc (c':=?z286) ?_ ?_
 case refine_1=>cbv<;>exact rfl
 have hw:=o_ne c.op hc.op
 have hf:=o_nk c N B hc.op (by rw [h1];decide)
 have hj:=o_pm (wordN c.op::c.nums.map itoaN) (by simp;omega) hlen
 have hwo:wordN c.op=[110,101,119]:=by rw [h1];rfl
 generalize joinN 32 (wordN c.op::c.nums.map itoaN)=res at *
 rw [hwo] at hw hj
 rw [h1] at hw
 have hwe:(bst [110,101,119]).toList.isEmpty=false:=by rw [o_m4];rfl
 generalize ([110,101,119]:List Nat)=w at *
 have hNs:=hN.sl h0
 have hnu:=hc.nums
 simp only [cmdD,List.map_cons,List.map_nil,h1] at hf ⊢
 generalize c.nums=l at *
 rw [hNs] at hf ⊢
 have hl0:0<l.length:=List.length_pos_iff.2 h0
 have hl1:¬l.length=0:=by omega
 have hl2:¬l=[]:=h0
 refine A11 (fs hwe (fs hl1 hl2)) hw ?_;try with_reducible exact tt
 refine AW.loopG (α:=Nat) (fun i=>setS (List.replicate 82 .junk) [(1,.p 0 0),(3,.own 1 1 (i+1)),(56,.d (.sl l.length (intD l))),(57,.d (.int .i64 l.length)),(58,.d (.int .i64 (i:Nat)))]) (fun i=>[some ⟨28,[.d (.int .i64 1),.d (.int .i64 c.h),.d (.int .i64 c.o),.d (.int .i64 c.i),.d (.int .i64 c.n),.d (.int .u64 c.key),.d (.sl l.length (intD l)),.d B]⟩,some ⟨9,strV (w::(l.map itoaN).take i)⟩]) (fun i=>i≤l.length) (fun i=>l.length-i) 0 ?_ (Nat.zero_le _) ?_ ?_ ?_
 ·intro i _;exact Nat.zero_le _
 ·simp
 ·simp [strV]
 rintro i hi
 by_cases hil:i<l.length
 ·have hi1:(i:Int)<l.length:=by omega
  have hit:=o_nc l[i] (hnu _ (List.getElem_mem ..))
  have hg:(intD l)[i]'(by simpa [intD] using hil) = .int .i64 l[i]:=by simp [intD]
  have hsn:strV (w::(l.map itoaN).take (i+1))=strV ((w::(l.map itoaN).take i)++[itoaN l[i]]):=by
   rw [List.take_succ_eq_append_getElem (by simpa using hil),List.getElem_map];rfl
  have hlr:(strV (w::(l.map itoaN).take i)).length=i+1:=by simp;omega
  have hk2:(i+1+1)*16≤140737488355328:=by omega
  have ew:IntKind.i64.wrap ((i:Int)+1)=(i:Int)+1:=w64 (by omega) (by omega)
  have hil2:i<(intD l).length:=by simpa [intD] using hil
  generalize w::(l.map itoaN).take i=RW at *
  generalize itoaN l[i]=tx at *
  generalize l[i]=z at *
  simp
  refine A11 (fs hi1 (fs hg (fs hil (fs hlr (fs hk2 (fs ew hil2)))))) hit ?_;try with_reducible exact tt
  refine ⟨i+1,1,3,by simp,by omega,by omega,?_,?_⟩
  ·simp [swT,swH,sw,Ob.sw,V.ren,V.rens]
  ·simp [swT,swH,sw,Ob.sw,V.ren,V.rens]
   rw [hsn,show strV RW++[V.d (.str (bst tx))]=strV (RW++[tx]) from (o_pn RW [tx]).symm];first | exact Subs.refl _ | (rw [o_m7];exact Subs.refl _)
 ·have hi0:i=l.length:=by omega
  have hi1:¬(i:Int)<l.length:=by omega
  have htt:w::(l.map itoaN).take i=w::l.map itoaN:=by rw [List.take_of_length_le (by simp;omega)]
  rw [htt,hi0] at *
  have htk:(strD (w::l.map itoaN)).take (l.length+1)=strD (w::l.map itoaN):=List.take_of_length_le (by simp)
  have hll:(w::l.map itoaN).length=l.length+1:=by simp
  rw [hll] at hj
  generalize w::l.map itoaN=WS at *
  have hsd:=o_m6 WS
  simp [hsd]
  refine A00 ?_;try with_reducible exact tt
  refine CallS.g [0] (hf) (R0 ?_);try with_reducible exact tt
  refine AW.loopE (α:=Unit) (fun _=>setS (List.replicate 82 .junk) [(3,.own 1 1 (l.length+1)),(69,.d (.int .i64 0)),(70,.d (.int .i64 0))]) (fun _=>[none,some ⟨9,(strD WS).map .d⟩]) (fun _=>True) (fun _=>0) () ?_ trivial ?_ ?_ ?_
  ·intro i _;exact Nat.zero_le _
  ·simp
  ·simp
  rintro _ _
  simp
  refine A00 ?_;try with_reducible exact tt
  refine CallS.pf 1 1 ⟨9,(strD WS).map .d⟩ (strD WS) (hj) (by first | rfl | (simp [htk];done)) (R1 htk ?_);try with_reducible exact tt
theorem o_pt (c:CmdM) (N B:D) (hc:c.Good) (hN:SlI N c.nums) (hB:SlB B c.bytes) (hn:c.nums.length≤100000) (hb:c.bytes.length≤1000000) (hlen:(textM c).length≤100000000) :
  Eqn Tryz.prog o_ab [.d (.agg (cmdD c N B))] [] (.d (.str (bst (textM c)))) []:=by
 unfold textM textW at hlen ⊢
 split
 ·rename_i h;exact o_po c N B hc.op h
 ·rename_i h
  rw [if_neg h] at hlen
  split
  ·rename_i h1
   rw [if_pos h1] at hlen
   split
   ·rename_i h2;exact o_pr c N B hc hN h1 h2
   ·rename_i h2
    rw [if_neg h2] at hlen
    exact o_ps c N B hc hN h1 h2 hn hlen
  ·rename_i h1
   rw [if_neg h1] at hlen
   split
   ·rename_i h8;exact o_pq c N B hc hN hB h8 hb
   ·rename_i h8
    rw [if_neg h8] at hlen
    exact o_pp c N B hc hN hB h h1 h8 hlen
end
section
open Go.RowKit
theorem o_pu (n:Nat) (h:n<16):digS.extract n (n+1)=bst [dig n]:=by
 have:∀n,n<16→digS.extract n (n+1)=bst [dig n]:=by decide
 exact this n h
theorem o_pv (B:D) (hB:SlB B []):Eqn Tryz.prog o_b3 [.d B] [] (.d (.str (bst [45]))) []:=by
 refine Eqn.pure o_b5 (o_6a _) ?_
 have e:bst [45]=⟨#[45]⟩:=rfl
 refine cc (c':=?z287) ?_ ?_
 case refine_1=>cbv<;>exact rfl
 rw [e]
 rcases hB with rfl | ⟨_,rfl⟩
 ·refine A00 ?_;try with_reducible exact tt
 ·refine A00 ?_;try with_reducible exact tt
set_option maxHeartbeats 4000000 in
theorem o_pw (b:List Nat) (hb:∀x∈b,x<256) (h0:b≠[]) (hn:b.length≤10000000):Eqn Tryz.prog o_b3 [.d (.sl b.length (byD b))] [] (.d (.str (bst (hexN b)))) []:=by
 refine Eqn.pure o_b5 (o_6a _) ?_
 have hD:(⟨#[48,49,50,51,52,53,54,55,56,57,97,98,99,100,101,102]⟩:ByteArray)=digS:=rfl
 refine cc (c':=?z288) ?_ ?_
 case refine_1=>cbv<;>exact rfl
 try simp only [hD]
 have hds:=o_o0
 have hbl:0<b.length:=List.length_pos_iff.2 h0
 have hbz:¬b.length=0:=by omega
 refine A10 (fs hbz h0) ?_;try with_reducible exact tt
 refine AW.loopE (α:=Nat) (fun i=>setS (List.replicate 32 .junk) [(3,.d (.str (bst (hexN (b.take i))))),(9,.d (.sl b.length (byD b))),(10,.d (.int .i64 b.length)),(11,.d (.int .i64 (i:Nat)))]) (fun i=>[]) (fun i=>i≤b.length) (fun i=>b.length-i) 0 ?_ (Nat.zero_le _) ?_ ?_ ?_
 ·intro i _;exact Nat.zero_le _
 ·simp [hexN];exact Sub1.refl _
 ·simp
 rintro i hi
 by_cases hib:i<b.length
 ·have hi1:(i:Int)<b.length:=by omega
  have hg:(byD b)[i]?=some (.int .u8 (b[i]:Nat)):=o_o1 b i hib
  have hx:b[i]<256:=hb _ (List.getElem_mem ..)
  have hsn:=o_o2 (b.take i) b[i]
  rw [←List.take_succ_eq_append_getElem hib] at hsn
  have hln:=o_o3 (b.take i)
  rw [List.length_take] at hln
  obtain ⟨x,hxe⟩:∃x,b[i]=x:=⟨_,rfl⟩
  rw [hxe] at hx hsn hg
  have g1:=o_pu (x/16) (by omega)
  have g2:=o_pu (x%16) (by omega)
  have b2:bits BinOp.and IntKind.u8 (x:Int) 15=((x%16:Nat):Int):=and15 x hx
  have b3:((x:Int)/16).toNat=x/16:=by omega
  have b5:((x:Int)%16).toNat=x%16:=by omega
  have ew:IntKind.i64.wrap ((i:Int)+1)=(i:Int)+1:=w64 (by omega) (by omega)
  have hbd:(byD b).length=b.length:=by simp [byD]
  have hib2:i<(byD b).length:=by omega
  have hg3:(byD b)[i]'hib2 = .int .u8 x:=by simp [byD,hxe]
  have b4:((x:Int)/16+1).toNat=x/16+1:=by omega
  have b6:((x:Int)%16+1).toNat=x%16+1:=by omega
  have w1:IntKind.u8.wrap ((x:Int)/16+1)=(x:Int)/16+1:=by rw [IntKind.wrap_u8];omega
  have w2:IntKind.u8.wrap ((x:Int)%16+1)=(x:Int)%16+1:=by rw [IntKind.wrap_u8];omega
  simp
  refine A10 (fs hi1 (fs hg3 (fs hib (fs hib2 (fs hds (fs b2 (fs b3 (fs b5 (fs b4 (fs b6 (fs w1 w2))))))))))) ?_;try with_reducible exact tt
  refine ⟨i+1,by omega,by omega,?_,Sub1.refl _⟩
  rw [g1,g2,o_dn,o_dn,hsn,List.append_assoc]
  exact Sub1.refl _
 ·have hi1:¬(i:Int)<b.length:=by omega
  have hi0:i=b.length:=by omega
  rw [show b.take i=b by rw [hi0];exact List.take_length]
  simp
  refine A10 hi1 ?_;try with_reducible exact tt
end
section
open Go.RowKit
theorem o_px (n:Nat) (h:n<18446744073709551616):(bst (decN n)).size≤64:=o_g6 (n:=n) (E:=64) h (by omega)
theorem o_py (v:Int) (h:inR v):(bst (itoaN v)).size≤65:=by
 unfold inR at h
 have:=o_px v.natAbs (by omega)
 unfold itoaN
 split
 ·show (((45::decN v.natAbs).map UInt8.ofNat).toArray).size≤65
  have h2:(bst (decN v.natAbs)).size=(decN v.natAbs).length:=by show ((decN v.natAbs).map UInt8.ofNat).toArray.size=_;simp
  simp
  omega
 ·omega
def o_pz:C:=(.seq (.reg false [⟨(some 1),.box 28 (.t 0),none,[]⟩,
 ⟨(some 2),.mv (.d (.str ⟨#[]⟩)),none,[]⟩,
 ⟨(some 3),.new 28 [(.int .i64 0),(.int .i64 0),(.int .i64 0),(.int .i64 0),(.int .i64 0),(.int .u64 0),.nilsl,.nilsl],none,[]⟩])
(.seq (.reg false [⟨(some 8),.fa 1 (.t 1),none,[]⟩,
 ⟨(some 9),.load false 1 (.t 8),none,[0]⟩,
 ⟨(some 10),.call 10 [(.t 9)],none,[1]⟩,
 ⟨(some 11),.bin .add (.d (.str ⟨#[32]⟩)) (.t 10),none,[2]⟩,
 ⟨(some 4),.mv (.t 11),none,[3,2,0,1,2,3]⟩])
(.seq (.seq (.reg false [⟨(some 12),.fa 0 (.t 1),none,[]⟩,
 ⟨(some 13),.load false 1 (.t 12),none,[0]⟩])
(.block 0 (.seq (.reg false [⟨(some 15),.bin .eql (.t 13) (.d (.int .i64 1)),none,[]⟩,
 ⟨(some 14),.mv (.t 15),none,[0]⟩])
(.cond (.t 14)
(.seq (.seq (.reg false [⟨(some 16),.fa 6 (.t 1),none,[]⟩,
   ⟨(some 17),.load false 1 (.t 16),none,[0]⟩,
   ⟨(some 18),.len (.t 17),none,[1]⟩,
   ⟨(some 19),.bin .eql (.t 18) (.d (.int .i64 0)),none,[2]⟩])
(.cond (.t 19)
 (.seq (.reg false [⟨(some 20),.build [(.int .i64 0),(.int .i64 0),(.int .i64 0),(.int .i64 0),(.int .i64 0),(.int .u64 0),.nilsl,.nilsl] [],none,[]⟩,
  ⟨(some 2),.mv (.d (.str ⟨#[]⟩)),none,[]⟩,
  ⟨none,.store 8 (.t 3) (.t 20),none,[0,1,0,1]⟩])
 .ret)
 .skip))
(.seq (.reg false [⟨(some 5),.mv (.d (.str ⟨#[110,101,119]⟩)),none,[]⟩])
(.seq (.seq (.reg false [⟨(some 21),.fa 6 (.t 1),none,[]⟩,
   ⟨(some 22),.load false 1 (.t 21),none,[0]⟩,
   ⟨(some 23),.len (.t 22),none,[1]⟩,
   ⟨(some 24),.mv (.d (.int .i64 0)),none,[]⟩])
(.block 1 (.loop (.seq (.reg false [⟨(some 25),.bin .lss (.t 24) (.t 23),none,[]⟩])
(.seq (.cond (.t 25)
 .skip
 (.exit 1))
(.seq (.block 2 (.seq (.reg false [⟨(some 26),.ix 1 (.t 22) (.t 24),none,[]⟩,
   ⟨(some 27),.load false 1 (.t 26),none,[0]⟩,
   ⟨(some 7),.mv (.t 27),none,[1,0,1]⟩])
(.reg false [⟨(some 28),.mv (.t 5),none,[]⟩,
   ⟨(some 29),.mv (.t 7),none,[]⟩,
   ⟨(some 30),.call 10 [(.t 29)],none,[1]⟩,
   ⟨(some 31),.bin .add (.d (.str ⟨#[32]⟩)) (.t 30),none,[2]⟩,
   ⟨(some 32),.bin .add (.t 28) (.t 31),none,[0,3]⟩,
   ⟨(some 5),.mv (.t 32),none,[4,2,0,1,2,3,4]⟩])))
(.reg false [⟨(some 33),.bin .add (.t 24) (.d (.int .i64 1)),none,[]⟩,
   ⟨(some 24),.mv (.t 33),none,[0]⟩])))))))
(.seq (.reg true [⟨(some 34),.mv (.t 5),none,[]⟩,
   ⟨(some 35),.fa 0 (.t 1),none,[]⟩,
   ⟨(some 36),.load false 1 (.t 35),none,[1]⟩,
   ⟨(some 37),.fa 6 (.t 1),none,[]⟩,
   ⟨(some 38),.load false 1 (.t 37),none,[3]⟩,
   ⟨(some 39),.build [(.int .i64 0),(.int .i64 0),(.int .i64 0),(.int .i64 0),(.int .i64 0),(.int .u64 0),.nilsl,.nilsl] [(0,1,(.t 36)),(6,1,(.t 38))],none,[2,4]⟩,
   ⟨(some 2),.mv (.t 34),none,[0,0]⟩,
   ⟨none,.store 8 (.t 3) (.t 39),none,[5,6,0,1,2,3,4,5,6]⟩])
.ret))))
(.seq (.reg false [⟨(some 41),.bin .eql (.t 13) (.d (.int .i64 2)),none,[]⟩,
   ⟨(some 40),.mv (.t 41),none,[0]⟩])
(.cond (.t 40)
 (.seq (.reg true [⟨(some 42),.mv (.t 4),none,[]⟩,
  ⟨(some 43),.bin .add (.d (.str ⟨#[97,100,100]⟩)) (.t 42),none,[0]⟩,
  ⟨(some 44),.bin .add (.t 43) (.d (.str ⟨#[32]⟩)),none,[1]⟩,
  ⟨(some 45),.fa 3 (.t 1),none,[]⟩,
  ⟨(some 46),.load false 1 (.t 45),none,[3]⟩,
  ⟨(some 47),.call 10 [(.t 46)],none,[4]⟩,
  ⟨(some 48),.bin .add (.t 44) (.t 47),none,[2,5]⟩,
  ⟨(some 49),.bin .add (.t 48) (.d (.str ⟨#[32]⟩)),none,[6]⟩,
  ⟨(some 50),.fa 4 (.t 1),none,[]⟩,
  ⟨(some 51),.load false 1 (.t 50),none,[8]⟩,
  ⟨(some 52),.call 10 [(.t 51)],none,[9,5]⟩,
  ⟨(some 53),.bin .add (.t 49) (.t 52),none,[7,10]⟩,
  ⟨(some 54),.fa 0 (.t 1),none,[]⟩,
  ⟨(some 55),.load false 1 (.t 54),none,[12]⟩,
  ⟨(some 56),.fa 1 (.t 1),none,[]⟩,
  ⟨(some 57),.load false 1 (.t 56),none,[14]⟩,
  ⟨(some 58),.fa 3 (.t 1),none,[]⟩,
  ⟨(some 59),.load false 1 (.t 58),none,[16]⟩,
  ⟨(some 60),.fa 4 (.t 1),none,[]⟩,
  ⟨(some 61),.load false 1 (.t 60),none,[18]⟩,
  ⟨(some 62),.build [(.int .i64 0),(.int .i64 0),(.int .i64 0),(.int .i64 0),(.int .i64 0),(.int .u64 0),.nilsl,.nilsl] [(0,1,(.t 55)),(1,1,(.t 57)),(3,1,(.t 59)),(4,1,(.t 61))],none,[13,15,17,19]⟩,
  ⟨(some 2),.mv (.t 53),none,[11,10,0,1,2,3,4,5,6,7,8,9,10,11]⟩,
  ⟨none,.store 8 (.t 3) (.t 62),none,[20,21,0,1,2,3,4,5,6,7,8,9,10,11,12,13,14,15,16,17,18,19,20,21]⟩])
 .ret)
 (.seq (.reg false [⟨(some 64),.bin .eql (.t 13) (.d (.int .i64 3)),none,[]⟩,
  ⟨(some 63),.mv (.t 64),none,[0]⟩])
 (.cond (.t 63)
   (.seq (.reg true [⟨(some 65),.mv (.t 4),none,[]⟩,
    ⟨(some 66),.bin .add (.d (.str ⟨#[117,112,100,97,116,101]⟩)) (.t 65),none,[0]⟩,
    ⟨(some 67),.bin .add (.t 66) (.d (.str ⟨#[32]⟩)),none,[1]⟩,
    ⟨(some 68),.fa 5 (.t 1),none,[]⟩,
    ⟨(some 69),.load false 1 (.t 68),none,[3]⟩,
    ⟨(some 70),.call 29 [(.t 69)],none,[4]⟩,
    ⟨(some 71),.bin .add (.t 67) (.t 70),none,[2,5]⟩,
    ⟨(some 72),.bin .add (.t 71) (.d (.str ⟨#[32]⟩)),none,[6]⟩,
    ⟨(some 73),.fa 4 (.t 1),none,[]⟩,
    ⟨(some 74),.load false 1 (.t 73),none,[8]⟩,
    ⟨(some 75),.call 10 [(.t 74)],none,[9,5]⟩,
    ⟨(some 76),.bin .add (.t 72) (.t 75),none,[7,10]⟩,
    ⟨(some 77),.fa 0 (.t 1),none,[]⟩,
    ⟨(some 78),.load false 1 (.t 77),none,[12]⟩,
    ⟨(some 79),.fa 1 (.t 1),none,[]⟩,
    ⟨(some 80),.load false 1 (.t 79),none,[14]⟩,
    ⟨(some 81),.fa 5 (.t 1),none,[]⟩,
    ⟨(some 82),.load false 1 (.t 81),none,[16]⟩,
    ⟨(some 83),.fa 4 (.t 1),none,[]⟩,
    ⟨(some 84),.load false 1 (.t 83),none,[18]⟩,
    ⟨(some 85),.build [(.int .i64 0),(.int .i64 0),(.int .i64 0),(.int .i64 0),(.int .i64 0),(.int .u64 0),.nilsl,.nilsl] [(0,1,(.t 78)),(1,1,(.t 80)),(5,1,(.t 82)),(4,1,(.t 84))],none,[13,15,17,19]⟩,
    ⟨(some 2),.mv (.t 76),none,[11,10,0,1,2,3,4,5,6,7,8,9,10,11]⟩,
    ⟨none,.store 8 (.t 3) (.t 85),none,[20,21,0,1,2,3,4,5,6,7,8,9,10,11,12,13,14,15,16,17,18,19,20,21]⟩])
   .ret)
   (.seq (.reg false [⟨(some 87),.bin .eql (.t 13) (.d (.int .i64 4)),none,[]⟩,
    ⟨(some 86),.mv (.t 87),none,[0]⟩])
   (.cond (.t 86)
  (.seq (.reg true [⟨(some 88),.mv (.t 4),none,[]⟩,
   ⟨(some 89),.bin .add (.d (.str ⟨#[113,117,101,114,121]⟩)) (.t 88),none,[0]⟩,
   ⟨(some 90),.bin .add (.t 89) (.d (.str ⟨#[32]⟩)),none,[1]⟩,
   ⟨(some 91),.fa 3 (.t 1),none,[]⟩,
   ⟨(some 92),.load false 1 (.t 91),none,[3]⟩,
   ⟨(some 93),.call 10 [(.t 92)],none,[4]⟩,
   ⟨(some 94),.bin .add (.t 90) (.t 93),none,[2,5]⟩,
   ⟨(some 95),.bin .add (.t 94) (.d (.str ⟨#[32]⟩)),none,[6]⟩,
   ⟨(some 96),.fa 5 (.t 1),none,[]⟩,
   ⟨(some 97),.load false 1 (.t 96),none,[8]⟩,
   ⟨(some 98),.call 29 [(.t 97)],none,[9,5]⟩,
   ⟨(some 99),.bin .add (.t 95) (.t 98),none,[7,10]⟩,
   ⟨(some 100),.bin .add (.t 99) (.d (.str ⟨#[32]⟩)),none,[11]⟩,
   ⟨(some 101),.fa 4 (.t 1),none,[]⟩,
   ⟨(some 102),.load false 1 (.t 101),none,[13]⟩,
   ⟨(some 103),.call 10 [(.t 102)],none,[14,10]⟩,
   ⟨(some 104),.bin .add (.t 100) (.t 103),none,[12,15]⟩,
   ⟨(some 105),.fa 0 (.t 1),none,[]⟩,
   ⟨(some 106),.load false 1 (.t 105),none,[17]⟩,
   ⟨(some 107),.fa 1 (.t 1),none,[]⟩,
   ⟨(some 108),.load false 1 (.t 107),none,[19]⟩,
   ⟨(some 109),.fa 3 (.t 1),none,[]⟩,
   ⟨(some 110),.load false 1 (.t 109),none,[21]⟩,
   ⟨(some 111),.fa 5 (.t 1),none,[]⟩,
   ⟨(some 112),.load false 1 (.t 111),none,[23]⟩,
   ⟨(some 113),.fa 4 (.t 1),none,[]⟩,
   ⟨(some 114),.load false 1 (.t 113),none,[25]⟩,
   ⟨(some 115),.build [(.int .i64 0),(.int .i64 0),(.int .i64 0),(.int .i64 0),(.int .i64 0),(.int .u64 0),.nilsl,.nilsl] [(0,1,(.t 106)),(1,1,(.t 108)),(3,1,(.t 110)),(5,1,(.t 112)),(4,1,(.t 114))],none,[18,20,22,24,26]⟩,
   ⟨(some 2),.mv (.t 104),none,[16,15,0,1,2,3,4,5,6,7,8,9,10,11,12,13,14,15,16]⟩,
   ⟨none,.store 8 (.t 3) (.t 115),none,[27,28,0,1,2,3,4,5,6,7,8,9,10,11,12,13,14,15,16,17,18,19,20,21,22,23,24,25,26,27,28]⟩])
  .ret)
  (.seq (.reg false [⟨(some 117),.bin .eql (.t 13) (.d (.int .i64 5)),none,[]⟩,
   ⟨(some 116),.mv (.t 117),none,[0]⟩])
  (.cond (.t 116)
    (.seq (.reg true [⟨(some 118),.mv (.t 4),none,[]⟩,
     ⟨(some 119),.bin .add (.d (.str ⟨#[109,101,114,103,101]⟩)) (.t 118),none,[0]⟩,
     ⟨(some 120),.bin .add (.t 119) (.d (.str ⟨#[32]⟩)),none,[1]⟩,
     ⟨(some 121),.fa 2 (.t 1),none,[]⟩,
     ⟨(some 122),.load false 1 (.t 121),none,[3]⟩,
     ⟨(some 123),.call 10 [(.t 122)],none,[4]⟩,
     ⟨(some 124),.bin .add (.t 120) (.t 123),none,[2,5]⟩,
     ⟨(some 125),.fa 0 (.t 1),none,[]⟩,
     ⟨(some 126),.load false 1 (.t 125),none,[7]⟩,
     ⟨(some 127),.fa 1 (.t 1),none,[]⟩,
     ⟨(some 128),.load false 1 (.t 127),none,[9]⟩,
     ⟨(some 129),.fa 2 (.t 1),none,[]⟩,
     ⟨(some 130),.load false 1 (.t 129),none,[11]⟩,
     ⟨(some 131),.build [(.int .i64 0),(.int .i64 0),(.int .i64 0),(.int .i64 0),(.int .i64 0),(.int .u64 0),.nilsl,.nilsl] [(0,1,(.t 126)),(1,1,(.t 128)),(2,1,(.t 130))],none,[8,10,12]⟩,
     ⟨(some 2),.mv (.t 124),none,[6,5,0,1,2,3,4,5,6]⟩,
     ⟨none,.store 8 (.t 3) (.t 131),none,[13,14,0,1,2,3,4,5,6,7,8,9,10,11,12,13,14]⟩])
    .ret)
    (.seq (.reg false [⟨(some 133),.bin .eql (.t 13) (.d (.int .i64 6)),none,[]⟩,
     ⟨(some 132),.mv (.t 133),none,[0]⟩])
    (.cond (.t 132)
   (.seq (.reg true [⟨(some 134),.mv (.t 4),none,[]⟩,
    ⟨(some 135),.bin .add (.d (.str ⟨#[97,110,97,108,121,115,101]⟩)) (.t 134),none,[0]⟩,
    ⟨(some 136),.bin .add (.t 135) (.d (.str ⟨#[32]⟩)),none,[1]⟩,
    ⟨(some 137),.fa 4 (.t 1),none,[]⟩,
    ⟨(some 138),.load false 1 (.t 137),none,[3]⟩,
    ⟨(some 139),.call 10 [(.t 138)],none,[4]⟩,
    ⟨(some 140),.bin .add (.t 136) (.t 139),none,[2,5]⟩,
    ⟨(some 141),.bin .add (.t 140) (.d (.str ⟨#[32]⟩)),none,[6]⟩,
    ⟨(some 142),.fa 3 (.t 1),none,[]⟩,
    ⟨(some 143),.load false 1 (.t 142),none,[8]⟩,
    ⟨(some 144),.call 10 [(.t 143)],none,[9,5]⟩,
    ⟨(some 145),.bin .add (.t 141) (.t 144),none,[7,10]⟩,
    ⟨(some 146),.fa 0 (.t 1),none,[]⟩,
    ⟨(some 147),.load false 1 (.t 146),none,[12]⟩,
    ⟨(some 148),.fa 1 (.t 1),none,[]⟩,
    ⟨(some 149),.load false 1 (.t 148),none,[14]⟩,
    ⟨(some 150),.fa 4 (.t 1),none,[]⟩,
    ⟨(some 151),.load false 1 (.t 150),none,[16]⟩,
    ⟨(some 152),.fa 3 (.t 1),none,[]⟩,
    ⟨(some 153),.load false 1 (.t 152),none,[18]⟩,
    ⟨(some 154),.build [(.int .i64 0),(.int .i64 0),(.int .i64 0),(.int .i64 0),(.int .i64 0),(.int .u64 0),.nilsl,.nilsl] [(0,1,(.t 147)),(1,1,(.t 149)),(4,1,(.t 151)),(3,1,(.t 153))],none,[13,15,17,19]⟩,
    ⟨(some 2),.mv (.t 145),none,[11,10,0,1,2,3,4,5,6,7,8,9,10,11]⟩,
    ⟨none,.store 8 (.t 3) (.t 154),none,[20,21,0,1,2,3,4,5,6,7,8,9,10,11,12,13,14,15,16,17,18,19,20,21]⟩])
   .ret)
   (.seq (.reg false [⟨(some 156),.bin .eql (.t 13) (.d (.int .i64 7)),none,[]⟩,
    ⟨(some 155),.mv (.t 156),none,[0]⟩])
   (.cond (.t 155)
     (.seq (.reg true [⟨(some 157),.mv (.t 4),none,[]⟩,
      ⟨(some 158),.bin .add (.d (.str ⟨#[101,110,99,111,100,101]⟩)) (.t 157),none,[0]⟩,
      ⟨(some 159),.fa 0 (.t 1),none,[]⟩,
      ⟨(some 160),.load false 1 (.t 159),none,[2]⟩,
      ⟨(some 161),.fa 1 (.t 1),none,[]⟩,
      ⟨(some 162),.load false 1 (.t 161),none,[4]⟩,
      ⟨(some 163),.build [(.int .i64 0),(.int .i64 0),(.int .i64 0),(.int .i64 0),(.int .i64 0),(.int .u64 0),.nilsl,.nilsl] [(0,1,(.t 160)),(1,1,(.t 162))],none,[3,5]⟩,
      ⟨(some 2),.mv (.t 158),none,[1,0,1]⟩,
      ⟨none,.store 8 (.t 3) (.t 163),none,[6,7,0,1,2,3,4,5,6,7]⟩])
     .ret)
     (.seq (.reg false [⟨(some 165),.bin .eql (.t 13) (.d (.int .i64 8)),none,[]⟩,
      ⟨(some 164),.mv (.t 165),none,[0]⟩])
     (.cond (.t 164)
    (.seq (.reg true [⟨(some 166),.fa 7 (.t 1),none,[]⟩,
     ⟨(some 167),.load false 1 (.t 166),none,[0]⟩,
     ⟨(some 168),.call 30 [(.t 167)],none,[1]⟩,
     ⟨(some 169),.bin .add (.d (.str ⟨#[100,101,99,111,100,101,32]⟩)) (.t 168),none,[2]⟩,
     ⟨(some 170),.fa 0 (.t 1),none,[]⟩,
     ⟨(some 171),.load false 1 (.t 170),none,[4]⟩,
     ⟨(some 172),.fa 7 (.t 1),none,[]⟩,
     ⟨(some 173),.load false 1 (.t 172),none,[6]⟩,
     ⟨(some 174),.build [(.int .i64 0),(.int .i64 0),(.int .i64 0),(.int .i64 0),(.int .i64 0),(.int .u64 0),.nilsl,.nilsl] [(0,1,(.t 171)),(7,1,(.t 173))],none,[5,7]⟩,
     ⟨(some 2),.mv (.t 169),none,[3,2,0,1,2,3]⟩,
     ⟨none,.store 8 (.t 3) (.t 174),none,[8,9,0,1,2,3,4,5,6,7,8,9]⟩])
    .ret)
    (.seq (.reg false [⟨(some 176),.bin .eql (.t 13) (.d (.int .i64 9)),none,[]⟩,
     ⟨(some 175),.mv (.t 176),none,[0]⟩])
    (.cond (.t 175)
      (.seq (.reg true [⟨(some 177),.mv (.t 4),none,[]⟩,
       ⟨(some 178),.bin .add (.d (.str ⟨#[100,114,111,112]⟩)) (.t 177),none,[0]⟩,
       ⟨(some 179),.fa 0 (.t 1),none,[]⟩,
       ⟨(some 180),.load false 1 (.t 179),none,[2]⟩,
       ⟨(some 181),.fa 1 (.t 1),none,[]⟩,
       ⟨(some 182),.load false 1 (.t 181),none,[4]⟩,
       ⟨(some 183),.build [(.int .i64 0),(.int .i64 0),(.int .i64 0),(.int .i64 0),(.int .i64 0),(.int .u64 0),.nilsl,.nilsl] [(0,1,(.t 180)),(1,1,(.t 182))],none,[3,5]⟩,
       ⟨(some 2),.mv (.t 178),none,[1,0,1]⟩,
       ⟨none,.store 8 (.t 3) (.t 183),none,[6,7,0,1,2,3,4,5,6,7]⟩])
      .ret)
      .skip))))))))))))))))))))
(.seq (.reg false [⟨(some 184),.build [(.int .i64 0),(.int .i64 0),(.int .i64 0),(.int .i64 0),(.int .i64 0),(.int .u64 0),.nilsl,.nilsl] [],none,[]⟩,
 ⟨(some 2),.mv (.d (.str ⟨#[]⟩)),none,[]⟩,
 ⟨none,.store 8 (.t 3) (.t 184),none,[0,1,0,1]⟩])
.ret))))
theorem o_q0:o_bg=o_pz:=by kernel_rfl
theorem tx_2 (h o i n:Int) (key:Nat) (N B:D) (h_h:inR h) (h_i:inR i) (h_n:inR n):Eqn Tryz.prog o_bf [.d (.agg [.int .i64 2,.int .i64 h,.int .i64 o,.int .i64 i,.int .i64 n,.int .u64 key,N,B])] [] (.tup [.d (.str (bst (joinN 32 [[97,100,100],itoaN h,itoaN i,itoaN n]))),.d (.agg [.int .i64 2,.int .i64 h,.int .i64 0,.int .i64 i,.int .i64 n,.int .u64 0,.nilsl,.nilsl])]) []:=by
 refine Eqn.pure o_bh (o_d3 _ _) ?_
 have hW:(⟨#[97,100,100]⟩:ByteArray)=bst [97,100,100]:=rfl
 have hS:(⟨#[32]⟩:ByteArray)=bst [32]:=rfl
 obtain ⟨S,hSd⟩:∃S,S=bst [32]:=⟨_,rfl⟩
 obtain ⟨W,hWd⟩:∃W,W=bst [97,100,100]:=⟨_,rfl⟩
 have hSs:S.size=1:=by rw [hSd];rfl
 have hWs:W.size=3:=by rw [hWd];rfl
 have hr:bst (joinN 32 [[97,100,100],itoaN h,itoaN i,itoaN n])=((W++(S++bst (itoaN h))++S)++bst (itoaN i)++S)++bst (itoaN n):=by
  rw [hSd,hWd];simp only [o_dn,joinN]<;>(congr 1<;>simp)
 rw [hr]
 have c_h:=o_pj h h_h
 have s_h:=o_py h h_h
 have c_i:=o_pj i h_i
 have s_i:=o_py i h_i
 have c_n:=o_pj n h_n
 have s_n:=o_py n h_n
 simp only [o_q0,o_pz]
 simp only [hS,hW,←hSd,←hWd]
 generalize bst (itoaN h)=x_h at *
 generalize bst (itoaN i)=x_i at *
 generalize bst (itoaN n)=x_n at *
 clear hr
 refine A03 c_h c_i c_n ?_;try with_reducible exact tt
theorem tx_3 (h o i n:Int) (key:Nat) (N B:D) (h_h:inR h) (h_key:key<18446744073709551616) (h_n:inR n):Eqn Tryz.prog o_bf [.d (.agg [.int .i64 3,.int .i64 h,.int .i64 o,.int .i64 i,.int .i64 n,.int .u64 key,N,B])] [] (.tup [.d (.str (bst (joinN 32 [[117,112,100,97,116,101],itoaN h,decN key,itoaN n]))),.d (.agg [.int .i64 3,.int .i64 h,.int .i64 0,.int .i64 0,.int .i64 n,.int .u64 key,.nilsl,.nilsl])]) []:=by
 refine Eqn.pure o_bh (o_d3 _ _) ?_
 have hW:(⟨#[117,112,100,97,116,101]⟩:ByteArray)=bst [117,112,100,97,116,101]:=rfl
 have hS:(⟨#[32]⟩:ByteArray)=bst [32]:=rfl
 obtain ⟨S,hSd⟩:∃S,S=bst [32]:=⟨_,rfl⟩
 obtain ⟨W,hWd⟩:∃W,W=bst [117,112,100,97,116,101]:=⟨_,rfl⟩
 have hSs:S.size=1:=by rw [hSd];rfl
 have hWs:W.size=6:=by rw [hWd];rfl
 have hr:bst (joinN 32 [[117,112,100,97,116,101],itoaN h,decN key,itoaN n])=((W++(S++bst (itoaN h))++S)++bst (decN key)++S)++bst (itoaN n):=by
  rw [hSd,hWd];simp only [o_dn,joinN]<;>(congr 1<;>simp)
 rw [hr]
 have c_h:=o_pj h h_h
 have s_h:=o_py h h_h
 have c_key:=o_pk key h_key
 have s_key:=o_px key h_key
 have c_n:=o_pj n h_n
 have s_n:=o_py n h_n
 simp only [o_q0,o_pz]
 simp only [hS,hW,←hSd,←hWd]
 generalize bst (itoaN h)=x_h at *
 generalize bst (decN key)=x_key at *
 generalize bst (itoaN n)=x_n at *
 clear hr
 refine A03 c_h c_key c_n ?_;try with_reducible exact tt
theorem tx_4 (h o i n:Int) (key:Nat) (N B:D) (h_h:inR h) (h_i:inR i) (h_key:key<18446744073709551616) (h_n:inR n):Eqn Tryz.prog o_bf [.d (.agg [.int .i64 4,.int .i64 h,.int .i64 o,.int .i64 i,.int .i64 n,.int .u64 key,N,B])] [] (.tup [.d (.str (bst (joinN 32 [[113,117,101,114,121],itoaN h,itoaN i,decN key,itoaN n]))),.d (.agg [.int .i64 4,.int .i64 h,.int .i64 0,.int .i64 i,.int .i64 n,.int .u64 key,.nilsl,.nilsl])]) []:=by
 refine Eqn.pure o_bh (o_d3 _ _) ?_
 have hW:(⟨#[113,117,101,114,121]⟩:ByteArray)=bst [113,117,101,114,121]:=rfl
 have hS:(⟨#[32]⟩:ByteArray)=bst [32]:=rfl
 obtain ⟨S,hSd⟩:∃S,S=bst [32]:=⟨_,rfl⟩
 obtain ⟨W,hWd⟩:∃W,W=bst [113,117,101,114,121]:=⟨_,rfl⟩
 have hSs:S.size=1:=by rw [hSd];rfl
 have hWs:W.size=5:=by rw [hWd];rfl
 have hr:bst (joinN 32 [[113,117,101,114,121],itoaN h,itoaN i,decN key,itoaN n])=(((W++(S++bst (itoaN h))++S)++bst (itoaN i)++S)++bst (decN key)++S)++bst (itoaN n):=by
  rw [hSd,hWd];simp only [o_dn,joinN]<;>(congr 1<;>simp)
 rw [hr]
 have c_h:=o_pj h h_h
 have s_h:=o_py h h_h
 have c_i:=o_pj i h_i
 have s_i:=o_py i h_i
 have c_key:=o_pk key h_key
 have s_key:=o_px key h_key
 have c_n:=o_pj n h_n
 have s_n:=o_py n h_n
 simp only [o_q0,o_pz]
 simp only [hS,hW,←hSd,←hWd]
 generalize bst (itoaN h)=x_h at *
 generalize bst (itoaN i)=x_i at *
 generalize bst (decN key)=x_key at *
 generalize bst (itoaN n)=x_n at *
 clear hr
 refine A04 c_h c_i c_key c_n ?_;try with_reducible exact tt
theorem tx_5 (h o i n:Int) (key:Nat) (N B:D) (h_h:inR h) (h_o:inR o):Eqn Tryz.prog o_bf [.d (.agg [.int .i64 5,.int .i64 h,.int .i64 o,.int .i64 i,.int .i64 n,.int .u64 key,N,B])] [] (.tup [.d (.str (bst (joinN 32 [[109,101,114,103,101],itoaN h,itoaN o]))),.d (.agg [.int .i64 5,.int .i64 h,.int .i64 o,.int .i64 0,.int .i64 0,.int .u64 0,.nilsl,.nilsl])]) []:=by
 refine Eqn.pure o_bh (o_d3 _ _) ?_
 have hW:(⟨#[109,101,114,103,101]⟩:ByteArray)=bst [109,101,114,103,101]:=rfl
 have hS:(⟨#[32]⟩:ByteArray)=bst [32]:=rfl
 obtain ⟨S,hSd⟩:∃S,S=bst [32]:=⟨_,rfl⟩
 obtain ⟨W,hWd⟩:∃W,W=bst [109,101,114,103,101]:=⟨_,rfl⟩
 have hSs:S.size=1:=by rw [hSd];rfl
 have hWs:W.size=5:=by rw [hWd];rfl
 have hr:bst (joinN 32 [[109,101,114,103,101],itoaN h,itoaN o])=(W++(S++bst (itoaN h))++S)++bst (itoaN o):=by
  rw [hSd,hWd];simp only [o_dn,joinN]<;>(congr 1<;>simp)
 rw [hr]
 have c_h:=o_pj h h_h
 have s_h:=o_py h h_h
 have c_o:=o_pj o h_o
 have s_o:=o_py o h_o
 simp only [o_q0,o_pz]
 simp only [hS,hW,←hSd,←hWd]
 generalize bst (itoaN h)=x_h at *
 generalize bst (itoaN o)=x_o at *
 clear hr
 refine A02 c_h c_o ?_;try with_reducible exact tt
theorem tx_6 (h o i n:Int) (key:Nat) (N B:D) (h_h:inR h) (h_n:inR n) (h_i:inR i):Eqn Tryz.prog o_bf [.d (.agg [.int .i64 6,.int .i64 h,.int .i64 o,.int .i64 i,.int .i64 n,.int .u64 key,N,B])] [] (.tup [.d (.str (bst (joinN 32 [[97,110,97,108,121,115,101],itoaN h,itoaN n,itoaN i]))),.d (.agg [.int .i64 6,.int .i64 h,.int .i64 0,.int .i64 i,.int .i64 n,.int .u64 0,.nilsl,.nilsl])]) []:=by
 refine Eqn.pure o_bh (o_d3 _ _) ?_
 have hW:(⟨#[97,110,97,108,121,115,101]⟩:ByteArray)=bst [97,110,97,108,121,115,101]:=rfl
 have hS:(⟨#[32]⟩:ByteArray)=bst [32]:=rfl
 obtain ⟨S,hSd⟩:∃S,S=bst [32]:=⟨_,rfl⟩
 obtain ⟨W,hWd⟩:∃W,W=bst [97,110,97,108,121,115,101]:=⟨_,rfl⟩
 have hSs:S.size=1:=by rw [hSd];rfl
 have hWs:W.size=7:=by rw [hWd];rfl
 have hr:bst (joinN 32 [[97,110,97,108,121,115,101],itoaN h,itoaN n,itoaN i])=((W++(S++bst (itoaN h))++S)++bst (itoaN n)++S)++bst (itoaN i):=by
  rw [hSd,hWd];simp only [o_dn,joinN]<;>(congr 1<;>simp)
 rw [hr]
 have c_h:=o_pj h h_h
 have s_h:=o_py h h_h
 have c_n:=o_pj n h_n
 have s_n:=o_py n h_n
 have c_i:=o_pj i h_i
 have s_i:=o_py i h_i
 simp only [o_q0,o_pz]
 simp only [hS,hW,←hSd,←hWd]
 generalize bst (itoaN h)=x_h at *
 generalize bst (itoaN n)=x_n at *
 generalize bst (itoaN i)=x_i at *
 clear hr
 refine A03 c_h c_n c_i ?_;try with_reducible exact tt
theorem tx_7 (h o i n:Int) (key:Nat) (N B:D) (h_h:inR h):Eqn Tryz.prog o_bf [.d (.agg [.int .i64 7,.int .i64 h,.int .i64 o,.int .i64 i,.int .i64 n,.int .u64 key,N,B])] [] (.tup [.d (.str (bst (joinN 32 [[101,110,99,111,100,101],itoaN h]))),.d (.agg [.int .i64 7,.int .i64 h,.int .i64 0,.int .i64 0,.int .i64 0,.int .u64 0,.nilsl,.nilsl])]) []:=by
 refine Eqn.pure o_bh (o_d3 _ _) ?_
 have hW:(⟨#[101,110,99,111,100,101]⟩:ByteArray)=bst [101,110,99,111,100,101]:=rfl
 have hS:(⟨#[32]⟩:ByteArray)=bst [32]:=rfl
 obtain ⟨S,hSd⟩:∃S,S=bst [32]:=⟨_,rfl⟩
 obtain ⟨W,hWd⟩:∃W,W=bst [101,110,99,111,100,101]:=⟨_,rfl⟩
 have hSs:S.size=1:=by rw [hSd];rfl
 have hWs:W.size=6:=by rw [hWd];rfl
 have hr:bst (joinN 32 [[101,110,99,111,100,101],itoaN h])=W++(S++bst (itoaN h)):=by
  rw [hSd,hWd];simp only [o_dn,joinN]<;>(congr 1<;>simp)
 rw [hr]
 have c_h:=o_pj h h_h
 have s_h:=o_py h h_h
 simp only [o_q0,o_pz]
 simp only [hS,hW,←hSd,←hWd]
 generalize bst (itoaN h)=x_h at *
 clear hr
 refine A01 c_h ?_;try with_reducible exact tt
theorem tx_9 (h o i n:Int) (key:Nat) (N B:D) (h_h:inR h):Eqn Tryz.prog o_bf [.d (.agg [.int .i64 9,.int .i64 h,.int .i64 o,.int .i64 i,.int .i64 n,.int .u64 key,N,B])] [] (.tup [.d (.str (bst (joinN 32 [[100,114,111,112],itoaN h]))),.d (.agg [.int .i64 9,.int .i64 h,.int .i64 0,.int .i64 0,.int .i64 0,.int .u64 0,.nilsl,.nilsl])]) []:=by
 refine Eqn.pure o_bh (o_d3 _ _) ?_
 have hW:(⟨#[100,114,111,112]⟩:ByteArray)=bst [100,114,111,112]:=rfl
 have hS:(⟨#[32]⟩:ByteArray)=bst [32]:=rfl
 obtain ⟨S,hSd⟩:∃S,S=bst [32]:=⟨_,rfl⟩
 obtain ⟨W,hWd⟩:∃W,W=bst [100,114,111,112]:=⟨_,rfl⟩
 have hSs:S.size=1:=by rw [hSd];rfl
 have hWs:W.size=4:=by rw [hWd];rfl
 have hr:bst (joinN 32 [[100,114,111,112],itoaN h])=W++(S++bst (itoaN h)):=by
  rw [hSd,hWd];simp only [o_dn,joinN]<;>(congr 1<;>simp)
 rw [hr]
 have c_h:=o_pj h h_h
 have s_h:=o_py h h_h
 simp only [o_q0,o_pz]
 simp only [hS,hW,←hSd,←hWd]
 generalize bst (itoaN h)=x_h at *
 clear hr
 refine A01 c_h ?_;try with_reducible exact tt
theorem o_q1 (l:List Int) (i:Nat) (hi:i<l.length):(intD l)[i]'(by simpa [intD] using hi) = .int .i64 l[i]:=by simp [intD]
theorem o_q2 (h o i n:Int) (key:Nat) (N B:D) (hh:inR h) (hN:SlI N []):Eqn Tryz.prog o_bf [.d (.agg [.int .i64 1,.int .i64 h,.int .i64 o,.int .i64 i,.int .i64 n,.int .u64 key,N,B])] [] (.tup [.d (.str (bst [])),.d (.agg [.int .i64 0,.int .i64 0,.int .i64 0,.int .i64 0,.int .i64 0,.int .u64 0,.nilsl,.nilsl])]) []:=by
 refine Eqn.pure o_bh (o_d3 _ _) ?_
 have c_h:=o_pj h hh
 have s_h:=o_py h hh
 have hn:bst []=⟨#[]⟩:=rfl
 simp only [o_q0,o_pz]
 rw [hn]
 have hS:(⟨#[32]⟩:ByteArray)=bst [32]:=rfl
 obtain ⟨S,hSd⟩:∃S,S=bst [32]:=⟨_,rfl⟩
 have hSs:S.size=1:=by rw [hSd];rfl
 simp only [hS,←hSd]
 generalize bst (itoaN h)=x_h at *
 rcases hN with rfl | ⟨_,rfl⟩
 ·refine A01 c_h ?_;try with_reducible exact tt
 ·refine A01 c_h ?_;try with_reducible exact tt
theorem o_q3 (op h o i n:Int) (key:Nat) (N B:D) (hh:inR h) (ho:inR op) (hw:wordN op=[]):Eqn Tryz.prog o_bf [.d (.agg [.int .i64 op,.int .i64 h,.int .i64 o,.int .i64 i,.int .i64 n,.int .u64 key,N,B])] [] (.tup [.d (.str (bst [])),.d (.agg [.int .i64 0,.int .i64 0,.int .i64 0,.int .i64 0,.int .i64 0,.int .u64 0,.nilsl,.nilsl])]) []:=by
 refine Eqn.pure o_bh (o_d3 _ _) ?_
 have c_h:=o_pj h hh
 have s_h:=o_py h hh
 have hn:bst []=⟨#[]⟩:=rfl
 simp only [o_q0,o_pz]
 rw [hn]
 have hS:(⟨#[32]⟩:ByteArray)=bst [32]:=rfl
 obtain ⟨S,hSd⟩:∃S,S=bst [32]:=⟨_,rfl⟩
 have hSs:S.size=1:=by rw [hSd];rfl
 simp only [hS,←hSd]
 generalize bst (itoaN h)=x_h at *
 have q:∀k:Nat,0<k→k<10→¬op=(k:Int):=by
  rintro k k0 k1 rfl
  have:∀k:Nat,k<10→0<k→wordN (k:Int)≠[]:=by decide
  exact this k k1 k0 hw
 have q1:=q 1 (by omega) (by omega)
 have q2:=q 2 (by omega) (by omega)
 have q3:=q 3 (by omega) (by omega)
 have q4:=q 4 (by omega) (by omega)
 have q5:=q 5 (by omega) (by omega)
 have q6:=q 6 (by omega) (by omega)
 have q7:=q 7 (by omega) (by omega)
 have q8:=q 8 (by omega) (by omega)
 have q9:=q 9 (by omega) (by omega)
 simp at q1 q2 q3 q4 q5 q6 q7 q8 q9
 refine A11 (fs q1 (fs q2 (fs q3 (fs q4 (fs q5 (fs q6 (fs q7 (fs q8 q9)))))))) c_h ?_;try with_reducible exact tt
theorem tx_8 (h o i n:Int) (key:Nat) (N B:D) (b:List Nat) (hh:inR h) (hB:SlB B b) (hb:∀x∈b,x<256) (hl:b.length≤1000000):Eqn Tryz.prog o_bf [.d (.agg [.int .i64 8,.int .i64 h,.int .i64 o,.int .i64 i,.int .i64 n,.int .u64 key,N,B])] [] (.tup [.d (.str (bst (joinN 32 [[100,101,99,111,100,101],if b=[] then [45] else hexN b]))),.d (.agg [.int .i64 8,.int .i64 0,.int .i64 0,.int .i64 0,.int .i64 0,.int .u64 0,.nilsl,B])]) []:=by
 refine Eqn.pure o_bh (o_d3 _ _) ?_
 have c_h:=o_pj h hh
 have s_h:=o_py h hh
 have hx:Eqn Tryz.prog o_b3 [.d B] [] (.d (.str (bst (if b=[] then [45] else hexN b)))) []:=by
  split
  ·rename_i e;subst e;exact o_pv B hB
  ·rename_i e
   rw [hB.sl e]
   exact o_pw b hb e (by omega)
 have hxs:(bst (if b=[] then [45] else hexN b)).size≤3000000:=by
  show ((if b=[] then [45] else hexN b).map UInt8.ofNat).toArray.size≤_
  split
  ·simp
  ·simp [o_o3];omega
 generalize (if b=[] then [45] else hexN b)=tx at *
 have hW:(⟨#[100,101,99,111,100,101,32]⟩:ByteArray)=bst [100,101,99,111,100,101,32]:=rfl
 have hS:(⟨#[32]⟩:ByteArray)=bst [32]:=rfl
 obtain ⟨S,hSd⟩:∃S,S=bst [32]:=⟨_,rfl⟩
 obtain ⟨W,hWd⟩:∃W,W=bst [100,101,99,111,100,101,32]:=⟨_,rfl⟩
 have hSs:S.size=1:=by rw [hSd];rfl
 have hWs:W.size=7:=by rw [hWd];rfl
 have hr:bst (joinN 32 [[100,101,99,111,100,101],tx])=W++bst tx:=by
  rw [hWd];simp only [o_dn,joinN];congr 1
 rw [hr]
 simp only [o_q0,o_pz]
 simp only [hS,hW,←hSd,←hWd]
 generalize bst (itoaN h)=x_h at *
 clear hr
 generalize bst tx=x at *
 clear hb hl
 rcases hB with rfl | ⟨_,rfl⟩
 ·generalize byD b=bd at *
  refine A02 c_h hx ?_;try with_reducible exact tt
 ·refine A02 c_h hx ?_;try with_reducible exact tt
end
section
open Go.RowKit
def flN (l:List Int):List Nat:=l.flatMap fun v=>32::itoaN v
theorem o_q4:∀(w:List Nat) (l:List Int),joinN 32 (w::l.map itoaN)=w++flN l
 | w,[]=>by simp [joinN,flN]
 | w,v::r=>by
  rw [List.map_cons,o_ln _ _ _ (by simp),o_q4]
  simp [flN]
theorem o_q5 (l:List Int) (v:Int):flN (l++[v])=flN l++(32::itoaN v):=by simp [flN]
theorem o_q6 (v:Int) (h:inR v):(itoaN v).length≤65:=by
 have:=o_py v h
 have h2:(bst (itoaN v)).size=(itoaN v).length:=by show ((itoaN v).map UInt8.ofNat).toArray.size=_;simp
 omega
theorem o_q7:∀l:List Int,(∀v∈l,inR v)→(flN l).length≤66*l.length
 | [],_=>by simp [flN]
 | v::r,h=>by
  have h1:=o_q6 v (h v (by simp))
  have h2:=o_q7 r fun x hx=>h x (by simp [hx])
  simp only [flN,List.flatMap_cons,List.length_append,List.length_cons] at h2 ⊢
  omega
theorem o_q8 (l:List Nat):(bst l).size=l.length:=by show (l.map UInt8.ofNat).toArray.size=_;simp
set_option maxHeartbeats 4000000 in
theorem o_q9 (h o i n:Int) (key:Nat) (B:D) (l:List Int) (hh:inR h) (h0:l≠[]) (hl:∀v∈l,inR v) (hn:l.length≤100000):Eqn Tryz.prog o_bf [.d (.agg [.int .i64 1,.int .i64 h,.int .i64 o,.int .i64 i,.int .i64 n,.int .u64 key,.sl l.length (intD l),B])] [] (.tup [.d (.str (bst ([110,101,119]++flN l))),.d (.agg [.int .i64 1,.int .i64 0,.int .i64 0,.int .i64 0,.int .i64 0,.int .u64 0,.sl l.length (intD l),.nilsl])]) []:=by
 refine Eqn.pure o_bh (o_d3 _ _) ?_
 have c_h:=o_pj h hh
 have s_h:=o_py h hh
 have hW:(⟨#[110,101,119]⟩:ByteArray)=bst [110,101,119]:=rfl
 have hS:(⟨#[32]⟩:ByteArray)=bst [32]:=rfl
 obtain ⟨S,hSd⟩:∃S,S=bst [32]:=⟨_,rfl⟩
 obtain ⟨W,hWd⟩:∃W,W=bst [110,101,119]:=⟨_,rfl⟩
 have hSs:S.size=1:=by rw [hSd];rfl
 simp only [o_q0,o_pz]
 simp only [hS,hW,←hSd,←hWd]
 generalize bst (itoaN h)=x_h at *
 have hl0:0<l.length:=List.length_pos_iff.2 h0
 have hl1:¬l.length=0:=by omega
 refine A11 (fs hl1 h0) c_h ?_;try with_reducible exact tt
 refine AW.loopE (α:=Nat) (fun j=>setS (List.replicate 185 .junk) [(1,.p 0 0),(3,.p 1 0),(5,.d (.str (bst ([110,101,119]++flN (l.take j))))),(22,.d (.sl l.length (intD l))),(23,.d (.int .i64 l.length)),(24,.d (.int .i64 (j:Nat)))]) (fun j=>[some ⟨28,[.d (.int .i64 1),.d (.int .i64 h),.d (.int .i64 o),.d (.int .i64 i),.d (.int .i64 n),.d (.int .u64 key),.d (.sl l.length (intD l)),.d B]⟩,some ⟨28,[.d (.int .i64 0),.d (.int .i64 0),.d (.int .i64 0),.d (.int .i64 0),.d (.int .i64 0),.d (.int .u64 0),.d .nilsl,.d .nilsl]⟩]) (fun j=>j≤l.length) (fun j=>l.length-j) 0 ?_ (Nat.zero_le _) ?_ ?_ ?_
 ·intro j _;exact Nat.zero_le _
 ·simp [flN,hWd]
 ·simp
 rintro j hj
 by_cases hjl:j<l.length
 ·have hj1:(j:Int)<l.length:=by omega
  have hjl2:j<(intD l).length:=by simpa [intD] using hjl
  have hg:(intD l)[j]'hjl2 = .int .i64 l[j]:=o_q1 l j hjl
  have hv:=hl _ (List.getElem_mem hjl)
  have hsn:=o_q5 (l.take j) l[j]
  rw [←List.take_succ_eq_append_getElem hjl] at hsn
  have hfl:=o_q7 (l.take j) fun v hv=>hl v (List.mem_of_mem_take hv)
  rw [List.length_take] at hfl
  obtain ⟨v,hve⟩:∃v,l[j]=v:=⟨_,rfl⟩
  rw [hve] at hg hv hsn
  have c_v:=o_pj v hv
  have s_v:=o_py v hv
  have hsz:(bst ([110,101,119]++flN (l.take j))).size≤10000000:=by
   rw [o_q8];simp;omega
  have ew:IntKind.i64.wrap ((j:Int)+1)=(j:Int)+1:=w64 (by omega) (by omega)
  have hr:bst ([110,101,119]++flN (l.take (j+1)))=bst ([110,101,119]++flN (l.take j))++(S++bst (itoaN v)):=by
   rw [hSd,hsn,o_dn,o_dn];simp
  generalize bst (itoaN v)=x at *
  generalize hac:bst ([110,101,119]++flN (l.take j))=ac at *
  simp
  refine A11 (fs hj1 (fs hg (fs hjl (fs hjl2 ew)))) c_v ?_;try with_reducible exact tt
  refine ⟨j+1,by omega,by omega,?_,Sub1.refl _⟩
  have hr2:bst (110::101::119::flN (l.take (j+1)))=ac++(S++x):=hr
  rw [hr2]
  exact Sub1.refl _
 ·have hj1:¬(j:Int)<l.length:=by omega
  have hj0:j=l.length:=by omega
  rw [show l.take j=l by rw [hj0];exact List.take_length]
  simp
  refine A10 hj1 ?_;try with_reducible exact tt
end
section
open Go.RowKit
def lineD (c:CmdM) (N B:D):D:=.agg (if textW c=[] then cmdD CmdM.zero .nilsl .nilsl else cmdD (plainM c) (if c.op=1 then N else .nilsl) (if c.op=8 then B else .nilsl))
theorem o_qa (c:CmdM) (h:wordN c.op=[]):textW c=[]:=by unfold textW;rw [if_pos h]
theorem o_qb (c:CmdM) (h:c.op=1):textW c=if c.nums=[] then [] else [110,101,119]::c.nums.map itoaN:=by unfold textW;rw [h];rfl
theorem o_qc (c:CmdM) (h:c.op=8):textW c=[[100,101,99,111,100,101],if c.bytes=[] then [45] else hexN c.bytes]:=by unfold textW;rw [h];rfl
theorem o_qd (c:CmdM) (k:Nat) (h:c.op=k) (h1:k≠1) (h8:k≠8) (hw:wordN k≠[]):textW c=wordN k::(fldsN k).map (getF c):=by
 unfold textW
 rw [h,if_neg hw,if_neg (by omega),if_neg (by omega)];rfl
theorem o_qe (c:CmdM) (N B:D) (h:textW c=[]):lineD c N B = .agg (cmdD CmdM.zero .nilsl .nilsl):=by unfold lineD;rw [if_pos h]
theorem o_qf (c:CmdM) (N B:D) (h:textW c≠[]):lineD c N B = .agg (cmdD (plainM c) (if c.op=1 then N else .nilsl) (if c.op=8 then B else .nilsl)):=by unfold lineD;rw [if_neg h]
theorem o_qg (c:CmdM) (N B:D) (hc:c.Good) (hN:SlI N c.nums) (hB:SlB B c.bytes) (hn:c.nums.length≤100000) (hb:c.bytes.length≤1000000) :
  Eqn Tryz.prog o_bf [.d (.agg (cmdD c N B))] [] (.tup [.d (.str (bst (textM c))),.d (lineD c N B)]) []:=by
 have t0:=o_qa c
 have t1:=o_qb c
 have t8:=o_qc c
 have tk:=o_qd c
 have l0:=o_qe c N B
 have l1:=o_qf c N B
 unfold textM
 have hwo:wordN c.op≠[]→_:=o_k7
 obtain ⟨op,h,o,i,n,key,nums,bytes⟩:=c
 have a1:=hc.op
 have a2:=hc.h
 have a3:=hc.o
 have a4:=hc.i
 have a5:=hc.n
 have a6:=hc.key
 have a7:=hc.nums
 have a8:=hc.bytes
 simp only at a1 a2 a3 a4 a5 a6 a7 a8 hN hB hn hb t0 t1 t8 tk l1 hwo
 by_cases hw:wordN op=[]
 ·rw [l0 (t0 hw),t0 hw]
  exact o_q3 op h o i n key N B a2 a1 hw
 obtain ⟨k,rfl,k0,k1,hwk⟩:=hwo hw
 by_cases h1:k=1
 ·subst h1
  have e:=t1 rfl
  by_cases h0:nums=[]
  ·subst h0
   rw [if_pos rfl] at e
   rw [l0 e,e]
   exact o_q2 h o i n key N B a2 hN
  ·rw [if_neg h0] at e
   rw [l1 (by rw [e];simp),e,o_q4,hN.sl h0]
   exact o_q9 h o i n key B nums a2 h0 a7 hn
 by_cases h8:k=8
 ·subst h8
  have e:=t8 rfl
  rw [l1 (by rw [e];simp),e]
  exact tx_8 h o i n key N B bytes a2 hB a8 hb
 have e:=tk k rfl h1 h8 hw
 rw [l1 (by rw [e];simp),e,if_neg (by omega),if_neg (by omega)]
 have hks:k=2∨k=3∨k=4∨k=5∨k=6∨k=7∨k=9:=by omega
 rcases hks with rfl | rfl | rfl | rfl | rfl | rfl | rfl
 ·exact tx_2 h o i n key N B a2 a4 a5
 ·exact tx_3 h o i n key N B a2 a6 a5
 ·exact tx_4 h o i n key N B a2 a4 a6 a5
 ·exact tx_5 h o i n key N B a2 a3
 ·exact tx_6 h o i n key N B a2 a5 a4
 ·exact tx_7 h o i n key N B a2
 ·exact tx_9 h o i n key N B a2
theorem o_qh (l:List Nat) (i:Nat) (hi:i<l.length):∀h,(byD l)[i]'h = .int .u8 (l[i]:Nat):=fun h=>by simp [byD]
theorem o_qi (l:List Nat) (B1 B2:D) (h1:SlB B1 l) (h2:SlB B2 l) (hn:l.length≤4000000):Eqn Tryz.prog o_bi [.d B1,.d B2] [] (.d (.bool true)) []:=by
 refine Eqn.pure o_bk (o_6a _) ?_
 refine cc (c':=?z300) ?_ ?_
 case refine_1=>cbv<;>exact rfl
 by_cases h0:l=[]
 ·subst h0
  rcases h1 with rfl | ⟨_,rfl⟩<;>rcases h2 with rfl | ⟨_,rfl⟩
  all_goals
   refine A00 ?_;try with_reducible exact tt
   refine AW.rounds 2 (AWu.next ?_)
   refine A00 ?_;try with_reducible exact tt
 rw [h1.sl h0,h2.sl h0]
 refine A00 ?_;try with_reducible exact tt
 refine AW.loopT (α:=Nat) 0 (fun i=>[(5,.d (.int .i64 (i:Nat)))]) (fun i=>[]) (fun i=>i≤l.length) (fun i=>l.length-i) 0 ?_ ?_ (Nat.zero_le _) ?_ ?_ ?_
 ·simp
 ·simp
 ·simp
 ·simp
 intro i hi
 simp
 by_cases hiw:i<l.length
 ·have hiw':(i:Int)<l.length:=by omega
  have ew:IntKind.i64.wrap ((i:Int)+1)=((i+1:Nat):Int):=by rw [w64 (by omega) (by omega)];omega
  have hge:=o_qh l i hiw
  have hbl:(byD l).length=l.length:=by simp [byD]
  have hiw2:i<(byD l).length:=by omega
  generalize l[i]=x at *
  refine A10 (fs hiw (fs hiw' (fs hiw2 (fs ew hge)))) ?_;try with_reducible exact tt
  exact ⟨i+1,by omega,by omega,Sub1.int (by omega)⟩
 ·have:¬(i:Int)<l.length:=by omega
  refine A10 this ?_;try with_reducible exact tt
end
section
open Go.RowKit
theorem o_qj {l:List Int} (h:l≠[]):numsD l = .sl l.length (intD l):=by unfold numsD;rw [if_neg h];rfl
theorem o_qk {l:List Nat} (h:l≠[]):bytesD l = .sl l.length (byD l):=by unfold bytesD;rw [if_neg h];rfl
theorem o_ql:numsD [] = .nilsl:=rfl
theorem o_qm (l:List Nat):SlB (bytesD l) l:=by
 by_cases h:l=[]
 ·subst h;exact .inr ⟨rfl,rfl⟩
 ·exact .inl (o_qk h)
set_option maxHeartbeats 4000000 in
theorem o_qn (c:CmdM) (B2:D) (h4:SlB B2 c.bytes) (hn:c.nums.length≤4000000) (hb:c.bytes.length≤4000000) :
  Eqn Tryz.prog o_bc [.d (cmdA c),.d (.agg (cmdD c (numsD c.nums) B2))] [] (.d (.bool true)) []:=by
 refine Eqn.pure o_be (o_6a _) ?_
 have hs:=o_qi c.bytes (bytesD c.bytes) B2 (o_qm _) h4 hb
 obtain ⟨op,h,o,i,n,key,l,bytes⟩:=c
 refine cc (c':=?z301) ?_ ?_
 case refine_1=>cbv<;>exact rfl
 try simp only [cmdA,cmdD] at *
 have hB:((∃n l,bytesD bytes = .sl n l)∧∃n l,B2 = .sl n l)∨(bytesD bytes = .nilsl∧∃n l,B2 = .sl n l)∨(bytesD bytes = .nilsl∧B2 = .nilsl):=by
  by_cases hb0:bytes=[]
  ·subst hb0
   rcases h4 with h | ⟨_,h⟩
   ·exact .inr (.inl ⟨rfl,_,_,h⟩)
   ·exact .inr (.inr ⟨rfl,h⟩)
  ·exact .inl ⟨⟨_,_,o_qk hb0⟩,_,_,h4.sl hb0⟩
 clear h4
 generalize bytesD bytes=B1 at *
 by_cases h0:l=[]
 ·subst h0
  rw [o_ql]
  rcases hB with ⟨⟨n1,l1,rfl⟩,n2,l2,rfl⟩ | ⟨rfl,n2,l2,rfl⟩ | ⟨rfl,rfl⟩
  all_goals
   refine A00 ?_;try with_reducible exact tt
   refine AW.rounds 2 (AWu.next ?_)
   refine A01 hs ?_;try with_reducible exact tt
 rw [o_qj h0]
 have hl0:¬l.length=0:=fun h=>h0 (List.length_eq_zero_iff.1 h)
 rcases hB with ⟨⟨n1,l1,rfl⟩,n2,l2,rfl⟩ | ⟨rfl,n2,l2,rfl⟩ | ⟨rfl,rfl⟩
 ·refine A00 ?_;try with_reducible exact tt
  refine AW.loopE (α:=Nat) (fun j=>setS (List.replicate 78 .junk) [(2,.p 0 0),(3,.p 1 0),(15,.d (.int .i64 l.length)),(16,.d (.int .i64 (j:Nat)))]) (fun j=>[some ⟨28,[.d (.int .i64 op),.d (.int .i64 h),.d (.int .i64 o),.d (.int .i64 i),.d (.int .i64 n),.d (.int .u64 key),.d (.sl l.length (intD l)),.d (.sl n1 l1)]⟩,some ⟨28,[.d (.int .i64 op),.d (.int .i64 h),.d (.int .i64 o),.d (.int .i64 i),.d (.int .i64 n),.d (.int .u64 key),.d (.sl l.length (intD l)),.d (.sl n2 l2)]⟩]) (fun j=>j≤l.length) (fun j=>l.length-j) 0 ?_ (Nat.zero_le _) ?_ ?_ ?_
  ·intro j _;exact Nat.zero_le _
  ·simp
  ·simp
  rintro j hj
  by_cases hiw:j<l.length
  ·have hiw':(j:Int)<l.length:=by omega
   have ew:IntKind.i64.wrap ((j:Int)+1)=((j+1:Nat):Int):=by rw [w64 (by omega) (by omega)];omega
   have hge:∀h,(intD l)[j]'h = .int .i64 l[j]:=fun h=>o_q1 l j hiw
   have hbl:(intD l).length=l.length:=by simp [intD]
   have hiw2:j<(intD l).length:=by omega
   generalize l[j]=x at *
   simp
   refine A10 (fs hiw (fs hiw' (fs hiw2 (fs ew hge)))) ?_;try with_reducible exact tt
   exact ⟨j+1,by omega,by omega,Sub1.refl _⟩
  ·have hnn:¬(j:Int)<l.length:=by omega
   simp
   refine A11 hnn hs ?_;try with_reducible exact tt
 ·refine A00 ?_;try with_reducible exact tt
  refine AW.loopE (α:=Nat) (fun j=>setS (List.replicate 78 .junk) [(2,.p 0 0),(3,.p 1 0),(15,.d (.int .i64 l.length)),(16,.d (.int .i64 (j:Nat)))]) (fun j=>[some ⟨28,[.d (.int .i64 op),.d (.int .i64 h),.d (.int .i64 o),.d (.int .i64 i),.d (.int .i64 n),.d (.int .u64 key),.d (.sl l.length (intD l)),.d .nilsl]⟩,some ⟨28,[.d (.int .i64 op),.d (.int .i64 h),.d (.int .i64 o),.d (.int .i64 i),.d (.int .i64 n),.d (.int .u64 key),.d (.sl l.length (intD l)),.d (.sl n2 l2)]⟩]) (fun j=>j≤l.length) (fun j=>l.length-j) 0 ?_ (Nat.zero_le _) ?_ ?_ ?_
  ·intro j _;exact Nat.zero_le _
  ·simp
  ·simp
  rintro j hj
  by_cases hiw:j<l.length
  ·have hiw':(j:Int)<l.length:=by omega
   have ew:IntKind.i64.wrap ((j:Int)+1)=((j+1:Nat):Int):=by rw [w64 (by omega) (by omega)];omega
   have hge:∀h,(intD l)[j]'h = .int .i64 l[j]:=fun h=>o_q1 l j hiw
   have hbl:(intD l).length=l.length:=by simp [intD]
   have hiw2:j<(intD l).length:=by omega
   generalize l[j]=x at *
   simp
   refine A10 (fs hiw (fs hiw' (fs hiw2 (fs ew hge)))) ?_;try with_reducible exact tt
   exact ⟨j+1,by omega,by omega,Sub1.refl _⟩
  ·have hnn:¬(j:Int)<l.length:=by omega
   simp
   refine A11 hnn hs ?_;try with_reducible exact tt
 ·refine A00 ?_;try with_reducible exact tt
  refine AW.loopE (α:=Nat) (fun j=>setS (List.replicate 78 .junk) [(2,.p 0 0),(3,.p 1 0),(15,.d (.int .i64 l.length)),(16,.d (.int .i64 (j:Nat)))]) (fun j=>[some ⟨28,[.d (.int .i64 op),.d (.int .i64 h),.d (.int .i64 o),.d (.int .i64 i),.d (.int .i64 n),.d (.int .u64 key),.d (.sl l.length (intD l)),.d .nilsl]⟩,some ⟨28,[.d (.int .i64 op),.d (.int .i64 h),.d (.int .i64 o),.d (.int .i64 i),.d (.int .i64 n),.d (.int .u64 key),.d (.sl l.length (intD l)),.d .nilsl]⟩]) (fun j=>j≤l.length) (fun j=>l.length-j) 0 ?_ (Nat.zero_le _) ?_ ?_ ?_
  ·intro j _;exact Nat.zero_le _
  ·simp
  ·simp
  rintro j hj
  by_cases hiw:j<l.length
  ·have hiw':(j:Int)<l.length:=by omega
   have ew:IntKind.i64.wrap ((j:Int)+1)=((j+1:Nat):Int):=by rw [w64 (by omega) (by omega)];omega
   have hge:∀h,(intD l)[j]'h = .int .i64 l[j]:=fun h=>o_q1 l j hiw
   have hbl:(intD l).length=l.length:=by simp [intD]
   have hiw2:j<(intD l).length:=by omega
   generalize l[j]=x at *
   simp
   refine A10 (fs hiw (fs hiw' (fs hiw2 (fs ew hge)))) ?_;try with_reducible exact tt
   exact ⟨j+1,by omega,by omega,Sub1.refl _⟩
  ·have hnn:¬(j:Int)<l.length:=by omega
   simp
   refine A11 hnn hs ?_;try with_reducible exact tt
end
section
open Go.RowKit
theorem o_qo (c:CmdM) (N B:D):∃a1 a2 a3 a4 a5 a6 a7 a8,lineD c N B = .agg [a1,a2,a3,a4,a5,a6,a7,a8]:=by
 unfold lineD
 split
 ·exact ⟨_,_,_,_,_,_,_,_,rfl⟩
 ·exact ⟨_,_,_,_,_,_,_,_,rfl⟩
end
section
open Go.RowKit
theorem o_qp (c:Nat):∀ws:List (List Nat),∀x∈joinN c ws,x=c∨∃w∈ws,x∈w
 | [],x,h=>by simp [joinN] at h
 | [w],x,h=>.inr ⟨w,by simp,by simpa [joinN] using h⟩
 | w::v::r,x,h=>by
  rw [o_ln _ _ _ (by simp)] at h
  rcases List.mem_append.1 h with h | h
  ·exact .inr ⟨w,by simp,h⟩
  rcases List.mem_cons.1 h with rfl | h
  ·exact .inl rfl
  ·rcases o_qp c (v::r) x h with h | ⟨u,hu,h⟩
   ·exact .inl h
   ·exact .inr ⟨u,List.mem_cons_of_mem _ hu,h⟩
theorem o_qq {c:CmdM} (g:c.Good) (hb:c.bytes.length≤100):∀w∈textW c,w.length≤200∧∀x∈w,x<256:=by
 have hword:∀op:Int,(wordN op).length≤200∧∀x∈wordN op,x<256:=by
  intro op
  rcases (Classical.em (wordN op=[])) with e | e
  ·rw [e];simp
  ·obtain ⟨k,_,_,h1,h2⟩:=o_k7 e
   rw [h2]
   have:∀k,k<10→(wordT.getD k []).length≤200:=by decide
   exact ⟨this k h1,o_nx k h1⟩
 have hI:∀v,inR v→(itoaN v).length≤200∧∀x∈itoaN v,x<256:=fun v h=>⟨by have:=o_q6 v h;omega,fun x hx=>by have:=o_jv v x hx;omega⟩
 have hK:∀v,v<18446744073709551616→(decN v).length≤200∧∀x∈decN v,x<256:=fun v h=>⟨by have:=o_px v h;rw [o_q8] at this;omega,fun x hx=>by have:=o_jq v x hx;omega⟩
 intro w h
 unfold textW at h
 split at h
 ·simp at h
 split at h
 ·split at h
  ·simp at h
  ·rcases List.mem_cons.1 h with rfl | h
   ·exact hword _
   ·obtain ⟨v,hv,rfl⟩:=List.mem_map.1 h;exact hI v (g.nums v hv)
 split at h
 ·simp only [List.mem_cons,List.not_mem_nil,or_false] at h
  rcases h with rfl | rfl
  ·exact hword _
  ·split
   ·simp
   ·exact ⟨by rw [o_o3];omega,o_o5 _ g.bytes⟩
 ·rcases List.mem_cons.1 h with rfl | h
  ·exact hword _
  ·obtain ⟨f,_,rfl⟩:=List.mem_map.1 h
   cases f
   ·exact hI _ g.h
   ·exact hI _ g.o
   ·exact hI _ g.i
   ·exact hI _ g.n
   ·exact hK _ g.key
theorem o_qr {c:CmdM} (hn:c.nums.length≤20):(textW c).length≤21:=by
 have hf:∀k:Nat,(fldsN k).length≤4:=by
  intro k
  unfold fldsN
  split<;>simp
 unfold textW
 split
 ·simp
 split
 ·split
  ·simp
  ·simp;omega
 split
 ·simp
 ·have:=hf c.op.toNat
  simp;omega
theorem o_qs {c:CmdM} (g:c.Good) (hn:c.nums.length≤20) (hb:c.bytes.length≤100):(textM c).length≤10000∧∀x∈textM c,x<256:=by
 have hq:=o_qq g hb
 have hm:=o_qr (c:=c) hn
 constructor
 ·have h1:=o_lv 32 (textW c)
  have h2:∀ws:List (List Nat),(∀w∈ws,w.length≤200)→(ws.map List.length).sum≤200*ws.length:=by
   intro ws
   induction ws with
   | nil=>simp
   | cons w r ih =>
    intro h
    have h3:=h w (by simp)
    have h4:=ih fun v hv=>h v (by simp [hv])
    simp;omega
  have h3:=h2 _ fun w hw=>(hq w hw).1
  unfold textM
  omega
 ·intro x hx
  rcases o_qp 32 _ x hx with rfl | ⟨w,hw,h⟩
  ·omega
  ·exact (hq w hw).2 x h
def cutM (c:CmdM):CmdM:={ c with nums:=c.nums.take 20,bytes:=c.bytes.take 100 }
theorem o_qt {c:CmdM} (g:c.Good):(cutM c).Good:=⟨g.op,g.h,g.o,g.i,g.n,g.key,fun v hv=>g.nums v (List.mem_of_mem_take hv),fun v hv=>g.bytes v (List.mem_of_mem_take hv)⟩
def cellsC (c:CmdM):List D:=cmdD c (.sl c.nums.length (intD c.nums)) (.sl c.bytes.length (byD c.bytes))
end
section
open Go.RowKit
theorem o_qu (cs:List CmdM):(cs.flatMap cellsC).length=cs.length*8:=by
 induction cs with
 | nil=>rfl
 | cons c r ih=>rw [List.flatMap_cons,List.length_append,ih,List.length_cons];simp only [cellsC,cmdD,List.length_cons,List.length_nil];omega
theorem o_qv:∀(cs:List CmdM) (i:Nat) (c:CmdM),cs[i]?=some c→((cs.flatMap cellsC).drop (i*8)).take 8=cellsC c
 | [],i,c,h=>by simp at h
 | a::r,0,c,h=>by
  simp at h;subst h
  rw [List.flatMap_cons];rfl
 | a::r,i+1,c,h=>by
  rw [List.flatMap_cons,show (i+1)*8=i*8+(cellsC a).length by simp only [cellsC,cmdD,List.length_cons,List.length_nil];omega,Nat.add_comm (i*8),List.drop_append]
  rw [←o_qv r i c (by simpa using h)]
  simp
  rw [List.drop_eq_nil_of_le (Nat.le_add_right _ _),List.nil_append]
structure LineOK (P:Program) (c:CmdM) (N B:D):Prop where
 all:(∃a1 a2 a3 a4 a5 a6 a7 a8 p1 p2 p3 p4 p5 p6 p7 p8:D,∃S:ByteArray,S.toList.isEmpty=false ∧
   Eqn P o_bf [.d (.agg (cmdD c N B))] [] (.tup [.d (.str S),.d (.agg [a1,a2,a3,a4,a5,a6,a7,a8])]) [] ∧
   Eqn P o_ab [.d (.agg (cmdD c N B))] [] (.d (.str S)) [] ∧
   Eqn P o_a5 [.d (.str S)] [] (.tup [.d (.agg [p1,p2,p3,p4,p5,p6,p7,p8]),.d (.int .i64 0)]) [] ∧
   Eqn P o_bc [.d (.agg [p1,p2,p3,p4,p5,p6,p7,p8]),.d (.agg [a1,a2,a3,a4,a5,a6,a7,a8])] [] (.d (.bool true)) []) ∨
  (∃a1 a2 a3 a4 a5 a6 a7 a8 p1 p2 p3 p4 p5 p6 p7 p8:D,
   Eqn P o_bf [.d (.agg (cmdD c N B))] [] (.tup [.d (.str ⟨#[]⟩),.d (.agg [a1,a2,a3,a4,a5,a6,a7,a8])]) [] ∧
   Eqn P o_ab [.d (.agg (cmdD c N B))] [] (.d (.str ⟨#[]⟩)) [] ∧
   Eqn P o_a5 [.d (.str ⟨#[]⟩)] [] (.tup [.d (.agg [p1,p2,p3,p4,p5,p6,p7,p8]),.d (.int .i64 4)]) [])
theorem o_qw {l:List Nat} (h:l≠[]):(bst l).toList.isEmpty=false:=by
 rw [o_m3]
 cases l with
 | nil=>exact absurd rfl h
 | cons a r=>rfl
theorem lineOK (c:CmdM) (N B:D) (g:c.Good) (hN:N = .sl c.nums.length (intD c.nums)) (hB:B = .sl c.bytes.length (byD c.bytes)) (hn:c.nums.length≤20) (hb:c.bytes.length≤100):LineOK Tryz.prog c N B:=by
 obtain ⟨f1,f2⟩:=o_qs g hn hb
 have h1:=o_qg c N B g (.inl hN) (.inl hB) (by omega) (by omega)
 have h2:=o_pt c N B g (.inl hN) (.inl hB) (by omega) (by omega) (by omega)
 have hp:=o_pc (textM c) f2 (by omega)
 rw [o_ly g] at hp
 by_cases h0:textW c=[]
 ·rw [if_pos h0] at hp
  have hm:=(o_lz c).2 h0
  rw [hm] at h1 h2 hp
  obtain ⟨a1,a2,a3,a4,a5,a6,a7,a8,hl8⟩:=o_qo c N B
  rw [hl8] at h1
  exact ⟨.inr ⟨a1,a2,a3,a4,a5,a6,a7,a8,_,_,_,_,_,_,_,_,h1,h2,hp⟩⟩
 ·rw [if_neg h0] at hp
  have hm:textM c≠[]:=fun h=>h0 ((o_lz c).1 h)
  rw [o_qf c N B h0] at h1
  have hX:(if c.op=1 then N else .nilsl)=numsD (plainM c).nums:=by
   by_cases e1:c.op=1
   ·rw [if_pos e1]
    have:(plainM c).nums=c.nums:=by unfold plainM;rw [if_pos e1]
    rw [this,o_qj,hN]
    intro e
    apply h0
    rw [o_qb c e1,if_pos e]
   ·rw [if_neg e1]
    have:(plainM c).nums=[]:=by
     unfold plainM;rw [if_neg e1];split<;>rfl
    rw [this];rfl
  have hY:SlB (if c.op=8 then B else .nilsl) (plainM c).bytes:=by
   by_cases e8:c.op=8
   ·have e1:¬c.op=1:=by omega
    have:(plainM c).bytes=c.bytes:=by unfold plainM;rw [if_neg e1,if_pos e8]
    rw [if_pos e8,this];exact .inl hB
   ·rw [if_neg e8]
    have:(plainM c).bytes=[]:=by
     unfold plainM
     split
     ·rfl
     ·first | rfl | (rw [if_neg e8])
    rw [this];exact .inr ⟨rfl,rfl⟩
  have hln:(plainM c).nums.length≤20:=by
   unfold plainM
   split
   ·exact hn
   ·split<;>simp [CmdM.zero]
  have hlb:(plainM c).bytes.length≤100:=by
   unfold plainM
   split
   ·simp [CmdM.zero]
   ·split
    ·exact hb
    ·simp
  have hs:=o_qn (plainM c) _ hY (by omega) (by omega)
  rw [hX] at h1
  exact ⟨.inl ⟨_,_,_,_,_,_,_,_,_,_,_,_,_,_,_,_,_,o_qw hm,h1,h2,hp,hs⟩⟩
set_option maxHeartbeats 4000000 in
theorem o_qx (cs:List CmdM) (hg:∀c∈cs,c.Good) (hn:cs.length≤maxLen) (hl:∀c∈cs,c.nums.length≤maxLen∧c.bytes.length≤maxLen):Eqn Tryz.prog o_ax [.d (.sl cs.length (cs.flatMap cellsC))] [] (.d (.bool true)) []:=by
 refine Eqn.pure o_az (o_6a _) ?_
 have haw:=o_pf
 have hcl:=o_qu cs
 have hcg:=o_qv cs
 obtain ⟨n,hcn⟩:∃n,n=cs.length:=⟨_,rfl⟩
 rw [←hcn] at hn hcl ⊢
 unfold maxLen at hn hl
 refine cc (c':=?z303) ?_ ?_
 case refine_1=>cbv<;>exact rfl
 generalize cs.flatMap cellsC=L at *
 refine A01 haw ?_;try with_reducible exact tt
 refine AW.loopT (α:=Nat) 0 (fun i=>[(3,.d (.int .i64 (i:Nat)))]) (fun i=>[]) (fun i=>i≤n) (fun i=>n-i) 0 ?_ ?_ (Nat.zero_le _) ?_ ?_ ?_
 ·simp
 ·simp
 ·simp
 ·simp
 intro i hi
 simp
 by_cases hin:i<n
 ·have hin':(i:Int)<n:=by omega
  by_cases h20:i<20
  ·have h20':(i:Int)<20:=by omega
   obtain ⟨c,hc⟩:∃c,cs[i]?=some c:=⟨_,List.getElem?_eq_getElem (by omega)⟩
   have hcm:c∈cs:=List.mem_of_getElem? hc
   have hge:=hcg i c hc
   have ew:IntKind.i64.wrap ((i:Int)+1)=((i+1:Nat):Int):=by rw [w64 (by omega) (by omega)];omega
   have g:=hg c hcm
   obtain ⟨hl1,hl2⟩:=hl c hcm
   have hLL:i*8+8≤L.length:=by omega
   obtain ⟨op,h,o,x,y,key,nums,bytes⟩:=c
   simp only [cellsC,cmdD] at hge
   simp only at hl1 hl2
   have hcut:=o_qt g
   simp only [cutM] at hcut
   by_cases hN:20<nums.length
   ·have hN':(20:Int)<nums.length:=by omega
    have eN:D.sl 20 (List.take 20 (intD nums)) = .sl (nums.take 20).length (intD (nums.take 20)):=by
     rw [List.length_take,Nat.min_eq_left (by omega)];simp [intD,List.map_take]
    by_cases hB:100<bytes.length
    ·have hB':(100:Int)<bytes.length:=by omega
     have eB:D.sl 100 (List.take 100 (byD bytes)) = .sl (bytes.take 100).length (byD (bytes.take 100)):=by
      rw [List.length_take,Nat.min_eq_left (by omega)];simp [byD,List.map_take]
     have hall:=(lineOK ⟨op,h,o,x,y,key,nums.take 20,bytes.take 100⟩ _ _ hcut eN eB (by simp;omega) (by simp;omega)).all
     clear eN eB hcut g hg hl hcg hc hcm
     simp only [cmdD] at hall
     have hln:(intD nums).length=nums.length:=by simp [intD]
     have hlb:(byD bytes).length=bytes.length:=by simp [byD]
     generalize intD nums=LN at *
     generalize byD bytes=LB at *
     rcases hall with ⟨a1,a2,a3,a4,a5,a6,a7,a8,p1,p2,p3,p4,p5,p6,p7,p8,S,hS,h1,h2,hp,hs⟩ | ⟨a1,a2,a3,a4,a5,a6,a7,a8,p1,p2,p3,p4,p5,p6,p7,p8,h1,h2,hp⟩
     ·refine A16 (fs hin (fs hin' (fs h20 (fs h20' (fs hge (fs hLL (fs hN (fs hN' (fs hB (fs hB' (fs hS (fs ew (fs hln hlb))))))))))))) h1 h2 hp h2 hs hs ?_;try with_reducible exact tt
      exact ⟨i+1,by omega,by omega,Sub1.int (by omega)⟩
     ·refine A14 (fs hin (fs hin' (fs h20 (fs h20' (fs hge (fs hLL (fs hN (fs hN' (fs hB (fs hB' (fs ew (fs hln hlb)))))))))))) h1 h2 hp h2 ?_;try with_reducible exact tt
      exact ⟨i+1,by omega,by omega,Sub1.int (by omega)⟩
    ·have hB':¬(100:Int)<bytes.length:=by omega
     have eB:D.sl bytes.length (byD bytes) = .sl (bytes.take 100).length (byD (bytes.take 100)):=by
      rw [List.take_of_length_le (by omega)]
     have hall:=(lineOK ⟨op,h,o,x,y,key,nums.take 20,bytes.take 100⟩ _ _ hcut eN eB (by simp;omega) (by simp;omega)).all
     clear eN eB hcut g hg hl hcg hc hcm
     simp only [cmdD] at hall
     have hln:(intD nums).length=nums.length:=by simp [intD]
     have hlb:(byD bytes).length=bytes.length:=by simp [byD]
     generalize intD nums=LN at *
     generalize byD bytes=LB at *
     rcases hall with ⟨a1,a2,a3,a4,a5,a6,a7,a8,p1,p2,p3,p4,p5,p6,p7,p8,S,hS,h1,h2,hp,hs⟩ | ⟨a1,a2,a3,a4,a5,a6,a7,a8,p1,p2,p3,p4,p5,p6,p7,p8,h1,h2,hp⟩
     ·refine A16 (fs hin (fs hin' (fs h20 (fs h20' (fs hge (fs hLL (fs hN (fs hN' (fs hB (fs hB' (fs hS (fs ew (fs hln hlb))))))))))))) h1 h2 hp h2 hs hs ?_;try with_reducible exact tt
      exact ⟨i+1,by omega,by omega,Sub1.int (by omega)⟩
     ·refine A14 (fs hin (fs hin' (fs h20 (fs h20' (fs hge (fs hLL (fs hN (fs hN' (fs hB (fs hB' (fs ew (fs hln hlb)))))))))))) h1 h2 hp h2 ?_;try with_reducible exact tt
      exact ⟨i+1,by omega,by omega,Sub1.int (by omega)⟩
   ·have hN':¬(20:Int)<nums.length:=by omega
    have eN:D.sl nums.length (intD nums) = .sl (nums.take 20).length (intD (nums.take 20)):=by
     rw [List.take_of_length_le (by omega)]
    by_cases hB:100<bytes.length
    ·have hB':(100:Int)<bytes.length:=by omega
     have eB:D.sl 100 (List.take 100 (byD bytes)) = .sl (bytes.take 100).length (byD (bytes.take 100)):=by
      rw [List.length_take,Nat.min_eq_left (by omega)];simp [byD,List.map_take]
     have hall:=(lineOK ⟨op,h,o,x,y,key,nums.take 20,bytes.take 100⟩ _ _ hcut eN eB (by simp;omega) (by simp;omega)).all
     clear eN eB hcut g hg hl hcg hc hcm
     simp only [cmdD] at hall
     have hln:(intD nums).length=nums.length:=by simp [intD]
     have hlb:(byD bytes).length=bytes.length:=by simp [byD]
     generalize intD nums=LN at *
     generalize byD bytes=LB at *
     rcases hall with ⟨a1,a2,a3,a4,a5,a6,a7,a8,p1,p2,p3,p4,p5,p6,p7,p8,S,hS,h1,h2,hp,hs⟩ | ⟨a1,a2,a3,a4,a5,a6,a7,a8,p1,p2,p3,p4,p5,p6,p7,p8,h1,h2,hp⟩
     ·refine A16 (fs hin (fs hin' (fs h20 (fs h20' (fs hge (fs hLL (fs hN (fs hN' (fs hB (fs hB' (fs hS (fs ew (fs hln hlb))))))))))))) h1 h2 hp h2 hs hs ?_;try with_reducible exact tt
      exact ⟨i+1,by omega,by omega,Sub1.int (by omega)⟩
     ·refine A14 (fs hin (fs hin' (fs h20 (fs h20' (fs hge (fs hLL (fs hN (fs hN' (fs hB (fs hB' (fs ew (fs hln hlb)))))))))))) h1 h2 hp h2 ?_;try with_reducible exact tt
      exact ⟨i+1,by omega,by omega,Sub1.int (by omega)⟩
    ·have hB':¬(100:Int)<bytes.length:=by omega
     have eB:D.sl bytes.length (byD bytes) = .sl (bytes.take 100).length (byD (bytes.take 100)):=by
      rw [List.take_of_length_le (by omega)]
     have hall:=(lineOK ⟨op,h,o,x,y,key,nums.take 20,bytes.take 100⟩ _ _ hcut eN eB (by simp;omega) (by simp;omega)).all
     clear eN eB hcut g hg hl hcg hc hcm
     simp only [cmdD] at hall
     have hln:(intD nums).length=nums.length:=by simp [intD]
     have hlb:(byD bytes).length=bytes.length:=by simp [byD]
     generalize intD nums=LN at *
     generalize byD bytes=LB at *
     rcases hall with ⟨a1,a2,a3,a4,a5,a6,a7,a8,p1,p2,p3,p4,p5,p6,p7,p8,S,hS,h1,h2,hp,hs⟩ | ⟨a1,a2,a3,a4,a5,a6,a7,a8,p1,p2,p3,p4,p5,p6,p7,p8,h1,h2,hp⟩
     ·refine A16 (fs hin (fs hin' (fs h20 (fs h20' (fs hge (fs hLL (fs hN (fs hN' (fs hB (fs hB' (fs hS (fs ew (fs hln hlb))))))))))))) h1 h2 hp h2 hs hs ?_;try with_reducible exact tt
      exact ⟨i+1,by omega,by omega,Sub1.int (by omega)⟩
     ·refine A14 (fs hin (fs hin' (fs h20 (fs h20' (fs hge (fs hLL (fs hN (fs hN' (fs hB (fs hB' (fs ew (fs hln hlb)))))))))))) h1 h2 hp h2 ?_;try with_reducible exact tt
      exact ⟨i+1,by omega,by omega,Sub1.int (by omega)⟩
  ·have h20':¬(i:Int)<20:=by omega
   refine A10 (fs hin' h20') ?_;try with_reducible exact tt
 ·have hin':¬(i:Int)<n:=by omega
  refine A10 hin' ?_;try with_reducible exact tt
end
section
open Go.RowKit
theorem o_qy {W:World} {b o:Nat} {u:Value} (h:W.cell? ⟨b,o,none⟩=some u):b<W.heap.size:=by
 rcases Nat.lt_or_ge b W.heap.size with h6 | h6
 ·exact h6
 ·unfold World.cell? at h
  rw [Array.getElem?_eq_none h6] at h
  cases h
theorem o_qz {I:Nat→Prop} {w:World} {b o:Nat} {d:D} {u:Value} (hb:I b) (hu:u.oneCell'=true) (hd:D.rep I w d u) (hc:w.cell? ⟨b,o,none⟩=some u):D.rep I w (.ptr [d] 0) (.pointer (some ⟨b,o,none⟩)):=by
 unfold D.rep
 refine ⟨b,o,rfl,hb,[u],by simpa using hu,?_,fun i v hv=>?_⟩
 ·unfold D.reps
  exact ⟨u,[],rfl,hd,by unfold D.reps;rfl⟩
 ·cases i with
  | zero=>simp at hv;subst hv;exact hc
  | succ i=>simp at hv
theorem o_r0 {W:World} {g b o t:Nat} {s:ByteArray} (h1:W.cell? ⟨g,0,none⟩=some (.iface t (.pointer (some ⟨b,o,none⟩)))) (h2:W.cell? ⟨b,o,none⟩=some (.string s)):D.rep (memW W).I W (.ptr [.ifc t (.ptr [.str s] 0)] 0) (.pointer (some ⟨g,0,none⟩)):=by
 refine o_qz (o_qy h1) rfl ?_ h1
 unfold D.rep
 exact ⟨_,rfl,o_qz (o_qy h2) rfl (by unfold D.rep;rfl) h2⟩
theorem tabsS {W:World} (h0:∀(i:Nat) u,(([1,10,100,1000,10000,100000,1000000,10000000,100000000,1000000000,10000000000,100000000000,1000000000000,10000000000000,100000000000000,1000000000000000,10000000000000000,100000000000000000,1000000000000000000,10000000000000000000]:List Int).map (Value.int .u64))[i]?=some u→W.cell? ⟨0,i,none⟩=some u)
  (h6:∃b o,W.cell? ⟨6,0,none⟩=some (.iface 454 (.pointer (some ⟨b,o,none⟩)))∧W.cell? ⟨b,o,none⟩=some (.string ⟨#[105,110,118,97,108,105,100,32,115,121,110,116,97,120]⟩))
  (h7:∃b o,W.cell? ⟨7,0,none⟩=some (.iface 454 (.pointer (some ⟨b,o,none⟩)))∧W.cell? ⟨b,o,none⟩=some (.string ⟨#[118,97,108,117,101,32,111,117,116,32,111,102,32,114,97,110,103,101]⟩)):Tabs (memW W):=by
 intro g l hg
 unfold tab at hg
 split at hg
 ·rename_i e
  subst e
  cases hg
  have hlt:0<W.heap.size:=o_qy (h0 0 _ rfl)
  unfold D.rep
  refine ⟨0,0,rfl,hlt,([1,10,100,1000,10000,100000,1000000,10000000,100000000,1000000000,10000000000,100000000000,1000000000000,10000000000000,100000000000000,1000000000000000,10000000000000000,100000000000000000,1000000000000000000,10000000000000000000]:List Int).map (Value.int .u64),fun u hu=>?_,reps_of (I:=(memW W).I) (w:=W) (fun z:Int=>D.int .u64 z) (Value.int .u64) (fun _=>by unfold D.rep;rfl) ([1,10,100,1000,10000,100000,1000000,10000000,100000000,1000000000,10000000000,100000000000,1000000000000,10000000000000,100000000000000,1000000000000000,10000000000000000,100000000000000000,1000000000000000000,10000000000000000000]:List Int),fun i u hu=>?_⟩
  ·obtain ⟨z,-,rfl⟩:=List.mem_map.1 hu
   rfl
  ·rw [Nat.zero_add];exact h0 i u hu
 split at hg
 ·rename_i e
  subst e
  cases hg
  obtain ⟨b,o,h1,h2⟩:=h6
  exact o_r0 h1 h2
 split at hg
 ·rename_i e
  subst e
  cases hg
  obtain ⟨b,o,h1,h2⟩:=h7
  exact o_r0 h1 h2
 ·cases hg
end
section
open Go.RowKit
def Nest (w:World) (v:Value) (vs:List Value):Prop:=∃p cap,v = .slice p vs.length cap∧vs.length≤cap∧cap≤maxLen∧((cap=0∧vs=[])∨∃b o,p=some ⟨b,o,none⟩∧b<w.heap.size∧∀i u,vs[i]?=some u→w.cell? ⟨b,o+i,none⟩=some u)
theorem o_r1 {W:World} {v:Value} {vs:List Value} {ds:List D} (h:Nest W v vs) (h1:∀u∈vs,u.oneCell'=true) (hr:D.reps (memW W).I W ds vs):D.rep (memW W).I W (.sl vs.length ds) v:=by
 obtain ⟨p,cap,rfl,h2,h3,h4⟩:=h
 unfold D.rep
 refine ⟨p,cap,rfl,h2,h3,vs,h1,hr,?_⟩
 rcases h4 with ⟨rfl,h5⟩ | ⟨b,o,rfl,hb,hc⟩
 ·exact .inl ⟨rfl,h5⟩
 ·exact .inr ⟨b,o,rfl,.inr hb,hc⟩
def CmdIn (W:World) (l:List Value):Prop:=∃(op h o i n:Int) (key:Int) (N B:Value) (ns bs:List Int),l=[.int .i64 op,.int .i64 h,.int .i64 o,.int .i64 i,.int .i64 n,.int .u64 key,N,B] ∧
 (Lit.int .i64 op).wf=true∧(Lit.int .i64 h).wf=true∧(Lit.int .i64 o).wf=true∧(Lit.int .i64 i).wf=true∧(Lit.int .i64 n).wf=true∧(Lit.int .u64 key).wf=true ∧
 Nest W N (ns.map (.int .i64))∧(∀z∈ns,(Lit.int .i64 z).wf=true)∧Nest W B (bs.map (.int .u8))∧(∀z∈bs,(Lit.int .u8 z).wf=true)
theorem o_r2 {z:Int} (h:(Lit.int .i64 z).wf=true):inR z:=by
 simp [Lit.wf,IntKind.min,IntKind.max,IntKind.bits,IntKind.signed] at h
 unfold inR;omega
theorem o_r3 {z:Int} (h:(Lit.int .u64 z).wf=true):0≤z∧z<18446744073709551616:=by
 simp [Lit.wf,IntKind.min,IntKind.max,IntKind.bits,IntKind.signed] at h
 omega
theorem o_r4 {z:Int} (h:(Lit.int .u8 z).wf=true):0≤z∧z<256:=by
 simp [Lit.wf,IntKind.min,IntKind.max,IntKind.bits,IntKind.signed] at h
 omega
def RowC (W:World) (c:CmdM) (l:List Value):Prop:=c.Good∧c.nums.length≤maxLen∧c.bytes.length≤maxLen∧D.reps (memW W).I W (cellsC c) l∧∀u∈l,u.oneCell'=true
theorem Nest.le {W:World} {v:Value} {vs:List Value} (h:Nest W v vs):vs.length≤maxLen:=by
 obtain ⟨p,cap,_,h2,h3,_⟩:=h;omega
theorem Nest.one {W:World} {v:Value} {vs:List Value} (h:Nest W v vs):v.oneCell'=true:=by
 obtain ⟨p,cap,rfl,_⟩:=h;rfl
theorem o_r5 {W:World} {l:List Value} (h:CmdIn W l):∃c,RowC W c l:=by
 obtain ⟨op,h,o,i,n,key,N,B,ns,bs,rfl,w1,w2,w3,w4,w5,w6,hN,wN,hB,wB⟩:=h
 have hk:=o_r3 w6
 have hbs:((bs.map Int.toNat).map fun n:Nat=>D.int .u8 n)=bs.map fun z=>D.int .u8 z:=by
  rw [List.map_map]
  refine List.map_congr_left fun z hz=>?_
  have:=o_r4 (wB z hz)
  show D.int .u8 ((z.toNat:Nat):Int)=_
  rw [Int.toNat_of_nonneg this.1]
 refine ⟨⟨op,h,o,i,n,key.toNat,ns,bs.map Int.toNat⟩,⟨o_r2 w1,o_r2 w2,o_r2 w3,o_r2 w4,o_r2 w5,by show key.toNat<_;omega,fun v hv=>o_r2 (wN v hv),fun b hb=>?_⟩,by simpa using hN.le,by simpa using hB.le,?_,?_⟩
 ·obtain ⟨z,hz,rfl⟩:=List.mem_map.1 hb
  have:=o_r4 (wB z hz)
  omega
 ·have rN:=o_r1 (ds:=ns.map fun z=>D.int .i64 z) hN (by intro u hu;obtain ⟨z,_,rfl⟩:=List.mem_map.1 hu;rfl) (reps_of (fun z=>D.int .i64 z) (Value.int .i64) (fun _=>by unfold D.rep;rfl) ns)
  have rB:=o_r1 (ds:=bs.map fun z=>D.int .u8 z) hB (by intro u hu;obtain ⟨z,_,rfl⟩:=List.mem_map.1 hu;rfl) (reps_of (fun z=>D.int .u8 z) (Value.int .u8) (fun _=>by unfold D.rep;rfl) bs)
  unfold cellsC cmdD intD byD
  simp only [hbs,List.length_map] at rN rB ⊢
  simp only [D.reps_cons,D.rep_int,D.reps_nil,Int.toNat_of_nonneg hk.1,rN,rB,and_self]
 ·intro u hu
  simp only [List.mem_cons,List.not_mem_nil,or_false] at hu
  rcases hu with rfl | rfl | rfl | rfl | rfl | rfl | rfl | rfl
  all_goals first | rfl | exact hN.one | exact hB.one
theorem o_r6 {W:World}:∀L:List (List Value),(∀l∈L,CmdIn W l)→∃cs:List { x:CmdM×List Value // RowC W x.1 x.2 },cs.map (fun x=>x.1.2)=L
 | [],_=>⟨[],rfl⟩
 | l::L,h=>by
  obtain ⟨c,hc⟩:=o_r5 (h l (by simp))
  obtain ⟨cs,hcs⟩:=o_r6 L fun l hl=>h l (by simp [hl])
  exact ⟨⟨(c,l),hc⟩::cs,by simp [hcs]⟩
theorem o_r7 {W:World} {v:Value} {L:List (List Value)} (hc:Cells W v 8 L.length L.flatten) (hl:∀l∈L,CmdIn W l):∃cs:List CmdM,(∀c∈cs,c.Good∧c.nums.length≤maxLen∧c.bytes.length≤maxLen)∧cs.length≤maxLen∧V.rep (memW W) (.d (.sl cs.length (cs.flatMap cellsC))) v:=by
 obtain ⟨cs,rfl⟩:=o_r6 L hl
 rw [List.length_map] at hc
 refine ⟨cs.map (fun x=>x.1.1),?_,?_,?_⟩
 ·intro c hc
  obtain ⟨x,_,rfl⟩:=List.mem_map.1 hc
  exact ⟨x.2.1,x.2.2.1,x.2.2.2.1⟩
 ·rw [List.length_map];exact hc.len
 ·have h:=o_kx (fun x:{ x:CmdM×List Value // RowC W x.1 x.2 }=>cellsC x.1.1) (fun x=>x.1.2) (fun x u hu=>x.2.2.2.2.2 u hu) (fun x=>x.2.2.2.2.1) hc
  rw [List.length_map,List.flatMap_map]
  exact h
theorem st_walk {W:World} (ht:Tabs (memW W)) {v:Value} {L:List (List Value)} (hc:Cells W v 8 L.length L.flatten) (hl:∀l∈L,CmdIn W l):Calls Tryz.prog o_ax #[v] W (fun e W'=>e = .returned (.bool true)∧Same W W'):=by
 obtain ⟨cs,h1,h2,h3⟩:=o_r7 hc hl
 exact o_kv o_az (o_qx cs (fun c hc=>(h1 c hc).1) h2 (fun c hc=>(h1 c hc).2)) (V.reps_cons.2 ⟨h3,V.reps_nil.2 rfl⟩) ht
end
end Go.Proofs.YtdakiocgijlgiaaGreatDoor.Am
