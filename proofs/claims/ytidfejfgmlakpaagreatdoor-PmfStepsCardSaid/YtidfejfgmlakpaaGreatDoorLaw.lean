/- Parts of the proof: PsD, PsE, PsF, PsG, PsH, PsI, PstL. -/
import Derived.Test.YtidfejfgmlakpaaGreatDoorPe
set_option linter.unusedVariables false
set_option linter.unusedSimpArgs false
set_option maxRecDepth 100000
namespace Go.Proofs.YtidfejfgmlakpaaGreatDoor.Am
section
open Go.RowKit
theorem o_10l {k a b:Nat} (h:GoodR k a b) (y t:Int) (f:Bool) (hn:y<0∨t<0):Eqn Tryz.prog o_7d [.d (parD k a b),.d (.agg [.int .i64 y,.int .i64 t,.bool f])] [] (.d (.bool false)) []:=by
 refine Eqn.pure o_7f Plain.ok ?_
 have h1:=o_t3 h
 refine cc (c':=?z256) ?_ ?_
 case refine_1=>cbv<;>exact rfl
 try simp only [parD] at h1 ⊢
 rcases h with ⟨rfl,h⟩ | ⟨hk,h⟩
 ·have h2:Eqn Tryz.prog o_8m [.d (.agg [.int .i64 a,.int .i64 b]),.d (.agg [.int .i64 y,.int .i64 t,.bool f])] [] (.d (.bool false)) []:=by
   refine Eqn.pure o_8o Plain.ok ?_
   refine cc (c':=?z257) ?_ ?_
   case refine_1=>cbv<;>exact rfl
   by_cases g1:0≤y
   ·have g2:¬0≤t:=by omega
    have g4:¬t=(b:Int):=by omega
    have g5:(t==(b:Int))=false:=by rw [beq_eq_false_iff_ne];exact g4
    by_cases g3:y≤a
    ·cases f
     ·refine A10 (fs g1 (fs g2 g3)) ?_;try with_reducible exact tt
     ·refine A10 (fs g1 (fs g2 (fs g3 (fs g4 g5)))) ?_;try with_reducible exact tt
    ·cases f
     ·refine A10 (fs g1 (fs g2 g3)) ?_;try with_reducible exact tt
     ·refine A10 (fs g1 (fs g2 (fs g3 (fs g4 g5)))) ?_;try with_reducible exact tt
   ·cases f
    ·refine A10 g1 ?_;try with_reducible exact tt
    ·by_cases g4:t=(b:Int)
     ·have g5:(t==(b:Int))=true:=by rw [beq_iff_eq];exact g4
      refine A10 (fs g1 (fs g4 g5)) ?_;try with_reducible exact tt
     ·have g5:(t==(b:Int))=false:=by rw [beq_eq_false_iff_ne];exact g4
      refine A10 (fs g1 (fs g4 g5)) ?_;try with_reducible exact tt
  refine A00 ?_;try with_reducible exact tt
  refine CallS.pu (h1) (R0 ?_);try with_reducible exact tt
  refine A00 ?_;try with_reducible exact tt
  refine CallS.pu (h2) (R0 ?_);try with_reducible exact tt
 ·have hk':¬((k:Int)=4):=by omega
  have h2:=o_t1 k a b h.2.2
  generalize 2^b-1=S at *
  refine A00 ?_;try with_reducible exact tt
  refine CallS.pu (h1) (R0 ?_);try with_reducible exact tt
  refine A10 (fs hk hk') ?_;try with_reducible exact tt
  by_cases ht:t=0
  ·have hy:¬0≤y:=by omega
   subst ht
   refine CallS.pu (h2) (R1 hy ?_);try with_reducible exact tt
  ·have hq:(t==0)=false:=by simp [ht]
   refine CallS.pu (h2) (R1 (fs ht hq) ?_);try with_reducible exact tt
theorem o_10m {k a b:Nat} (h:GoodR k a b) (y t:Int) (f:Bool):(∃Y T:Nat,y=Y∧t=T∧WellR k a b Y T f∧Eqn Tryz.prog o_7d [.d (parD k a b),.d (.agg [.int .i64 Y,.int .i64 T,.bool f])] [] (.d (.bool true)) [])∨(Eqn Tryz.prog o_8v [.d (parD k a b),.d (.agg [.int .i64 y,.int .i64 t,.bool f])] [] (.d (.bool false)) []∧Eqn Tryz.prog o_7d [.d (parD k a b),.d (.agg [.int .i64 y,.int .i64 t,.bool f])] [] (.d (.bool false)) []):=by
 by_cases hn:y<0∨t<0
 ·exact .inr ⟨o_ss h y t f hn,o_10l h y t f hn⟩
 ·obtain ⟨Y,rfl⟩:∃Y:Nat,y=Y:=⟨y.toNat,by omega⟩
  obtain ⟨T,rfl⟩:∃T:Nat,t=T:=⟨t.toNat,by omega⟩
  have h1:=o_qv h Y T f
  have h2:=o_t5 h Y T f
  unfold tsD at h1 h2
  cases hw:wellRB k a b Y T f with
  | true =>
   rw [hw] at h2
   exact .inl ⟨Y,T,rfl,rfl,o_qu.1 hw,h2⟩
  | false =>
   rw [hw] at h1 h2
   exact .inr ⟨h1,h2⟩
theorem o_10n {k a b:Int} (hc:Eqn Tryz.prog o_ab [.d (parD k a b)] [] (.d (.int .i64 10)) []) (n:Nat) (l:List D):Eqn Tryz.prog o_7y [.d (parD k a b),.d (.sl n l)] [] (.d (.int .i64 10)) []:=by
 refine Eqn.pure o_80 Plain.ok ?_
 refine cc (c':=?z258) ?_ ?_
 case refine_1=>cbv<;>exact rfl
 try simp only [parD] at hc ⊢
 refine A00 ?_;try with_reducible exact tt
 refine CallS.pu (hc) (R0 ?_);try with_reducible exact tt
 refine A00 ?_;try with_reducible exact tt
theorem o_10o {k a w:Nat} {y t:Int} {f:Bool} (hw:Eqn Tryz.prog o_8v [.d (parD k a w),.d (.agg [.int .i64 y,.int .i64 t,.bool f])] [] (.d (.bool false)) []):Eqn Tryz.prog o_ah [.d (.agg [.int .i64 y,.int .i64 t,.bool f]),.p 0 0] [PO k a w] (.d (.bool true)) [PO k a w]:=by
 refine Eqn.gen [0] o_aj (by simp) (by simp) (by rfl) (by decide) (by simp) (by simp [PO]) ?_
 refine cc (c':=?z259) ?_ ?_
 case refine_1=>cbv<;>exact rfl
 try simp only [PO,parD] at hw ⊢
 refine A00 ?_;try with_reducible exact tt
 refine CallS.pu (hw) (R0 ?_);try with_reducible exact tt
theorem o_10p {k a w:Nat} {y t:Int} {f:Bool} (hw:Eqn Tryz.prog o_8v [.d (parD k a w),.d (.agg [.int .i64 y,.int .i64 t,.bool f])] [] (.d (.bool false)) []):Eqn Tryz.prog o_dk [.d (.sl 1 [.int .i64 y,.int .i64 t,.bool f]),.fn (.func o_ah) [.p 0 0]] [PO k a w] (.d (.int .i64 0)) [PO k a w]:=by
 refine Eqn.gen [0] o_dm (by simp) (by simp) (by rfl) (by decide) (by simp) (by simp [PO]) ?_
 have hw1:=o_10o hw
 refine cc (c':=?z260) ?_ ?_
 case refine_1=>cbv<;>exact rfl
 try simp only [PO] at hw1 ⊢
 refine A00 ?_;try with_reducible exact tt
 refine AW.rounds 1 ?_
 refine A00 ?_;try with_reducible exact tt
 refine CallS.g [0] (hw1) (R0 ?_);try with_reducible exact tt
 refine A00 ?_;try with_reducible exact tt
theorem o_10q {k a w:Nat} (h:GoodR k a w) {y t:Int} {f:Bool} (hw:Eqn Tryz.prog o_8v [.d (parD k a w),.d (.agg [.int .i64 y,.int .i64 t,.bool f])] [] (.d (.bool false)) []):Eqn Tryz.prog o_dk [.d (.sl 2 [.int .i64 0,.int .i64 0,.bool false,.int .i64 y,.int .i64 t,.bool f]),.fn (.func o_ah) [.p 0 0]] [PO k a w] (.d (.int .i64 1)) [PO k a w]:=by
 refine Eqn.gen [0] o_dm (by simp) (by simp) (by rfl) (by decide) (by simp) (by simp [PO]) ?_
 have hw1:=o_10o hw
 have hw0:=o_wx h (0,0,false) (well0 k a w)
 have e0:((0:Nat):Int)=0:=rfl
 refine cc (c':=?z261) ?_ ?_
 case refine_1=>cbv<;>exact rfl
 try simp only [PO,stD,e0] at hw0 hw1 ⊢
 refine A00 ?_;try with_reducible exact tt
 refine AW.rounds 2 ?_
 refine A00 ?_;try with_reducible exact tt
 refine CallS.g [0] (hw0) (R0 ?_);try with_reducible exact tt
 refine A00 ?_;try with_reducible exact tt
 refine CallS.g [0] (hw1) (R0 ?_);try with_reducible exact tt
 refine A00 ?_;try with_reducible exact tt
theorem o_10r {k a w:Nat} {n:Nat} {l:List D} {i:Int} (h0:0≤i) (hi:Eqn Tryz.prog o_dk [.d (.sl n l),.fn (.func o_ah) [.p 0 0]] [PO k a w] (.d (.int .i64 i)) [PO k a w]):Eqn Tryz.prog o_ae [.d (.sl n l),.fn (.func o_ah) [.p 0 0]] [PO k a w] (.d (.bool true)) [PO k a w]:=by
 refine Eqn.gen [0] o_ag (by simp) (by simp) (by rfl) (by decide) (by simp) (by simp [PO]) ?_
 refine cc (c':=?z262) ?_ ?_
 case refine_1=>cbv<;>exact rfl
 try simp only [PO] at hi ⊢
 refine A00 ?_;try with_reducible exact tt
 refine CallS.g [0] (hi) (R1 h0 ?_);try with_reducible exact tt
theorem o_10s {k a w:Nat} (h:GoodR k a w) {n:Nat} {l:List D} {i:Int} (h0:0≤i) (hi:Eqn Tryz.prog o_dk [.d (.sl n l),.fn (.func o_ah) [.p 0 0]] [PO k a w] (.d (.int .i64 i)) [PO k a w]):Eqn Tryz.prog o_7y [.d (parD k a w),.d (.sl n l)] [] (.d (.int .i64 2)) []:=by
 refine Eqn.pure o_80 Plain.ok ?_
 have hc:=o_qt h
 have hi:=o_10r h0 hi
 refine cc (c':=?z263) ?_ ?_
 case refine_1=>cbv<;>exact rfl
 try simp only [PO,parD] at hc hi ⊢
 refine A00 ?_;try with_reducible exact tt
 refine CallS.pu (hc) (R0 ?_);try with_reducible exact tt
 refine A00 ?_;try with_reducible exact tt
 refine CallS.g [0] (hi) (R0 ?_);try with_reducible exact tt
 refine A00 ?_;try with_reducible exact tt
theorem o_10t {k a b e:Int} (he:e≠0) (n:Nat) (l:List D) (hw:Eqn Tryz.prog o_7y [.d (parD k a b),.d (.sl n l)] [] (.d (.int .i64 e)) []):Eqn Tryz.prog o_7p [.d (parD k a b),.d (.sl n l)] [] (.d (.int .i64 e)) []:=by
 refine Eqn.pure o_7r Plain.ok ?_
 refine cc (c':=?z264) ?_ ?_
 case refine_1=>cbv<;>exact rfl
 try simp only [parD] at hw ⊢
 refine A00 ?_;try with_reducible exact tt
 refine CallS.pu (hw) (R1 he ?_);try with_reducible exact tt
 refine A10 he ?_;try with_reducible exact tt
theorem o_10u {k a b:Int} (n:Nat) (l:List D) (S:Nat) (hS:S≤1000000) (hw:Eqn Tryz.prog o_7y [.d (parD k a b),.d (.sl n l)] [] (.d (.int .i64 0)) []) (hst:Eqn Tryz.prog o_81 [.d (parD k a b)] [] (.d (.int .i64 S)) []):Eqn Tryz.prog o_7p [.d (parD k a b),.d (.sl n l)] [] (.d (.int .i64 (if 512<4*S then 12 else 0))) []:=by
 refine Eqn.pure o_7r Plain.ok ?_
 have e1:IntKind.i64.wrap (4*(S:Int))=4*(S:Int):=w64 (by omega) (by omega)
 refine cc (c':=?z265) ?_ ?_
 case refine_1=>cbv<;>exact rfl
 try simp only [parD] at hw hst ⊢
 by_cases h:512<4*S
 ·have e2:512<4*(S:Int):=by omega
  rw [if_pos h]
  refine A00 ?_;try with_reducible exact tt
  refine CallS.pu (hw) (R0 ?_);try with_reducible exact tt
  refine A00 ?_;try with_reducible exact tt
  refine CallS.pu (hst) (R1 (fs e1 e2) ?_);try with_reducible exact tt
  refine A10 (fs e1 e2) ?_;try with_reducible exact tt
 ·have e2:¬512<4*(S:Int):=by omega
  rw [if_neg h]
  refine A00 ?_;try with_reducible exact tt
  refine CallS.pu (hw) (R0 ?_);try with_reducible exact tt
  refine A00 ?_;try with_reducible exact tt
  refine CallS.pu (hst) (R1 (fs e1 e2) ?_);try with_reducible exact tt
  refine A10 (fs e1 e2) ?_;try with_reducible exact tt
theorem o_10v {k a b y t e:Int} {f:Bool} (he:e≠0) (hc:Eqn Tryz.prog o_7p [.d (parD k a b),.d (.sl 1 [.int .i64 y,.int .i64 t,.bool f])] [] (.d (.int .i64 e)) []):Eqn Tryz.prog o_71 [.d (parD k a b),.d (.agg [.int .i64 y,.int .i64 t,.bool f])] [] (.tup [.d .nilsl,.d (.int .i64 e)]) []:=by
 refine Eqn.pure o_73 Plain.ok ?_
 refine cc (c':=?z266) ?_ ?_
 case refine_1=>cbv<;>exact rfl
 try simp only [parD] at hc ⊢
 refine A00 ?_;try with_reducible exact tt
 refine CallS.pf 2 3 ⟨29,_⟩ [.int .i64 y,.int .i64 t,.bool f] (hc) (by first | rfl | (simp [he];done)) (R1 he ?_);try with_reducible exact tt
 refine A10 he ?_;try with_reducible exact tt
theorem o_10w {k a b y t e:Int} {f:Bool} (he:e≠0) (hc:Eqn Tryz.prog o_7p [.d (parD k a b),.d (.sl 2 [.int .i64 0,.int .i64 0,.bool false,.int .i64 y,.int .i64 t,.bool f])] [] (.d (.int .i64 e)) []):Eqn Tryz.prog o_77 [.d (parD k a b),.d (.agg [.int .i64 0,.int .i64 0,.bool false]),.d (.agg [.int .i64 y,.int .i64 t,.bool f])] [] (.tup [.d .nilsl,.d (.int .i64 e)]) []:=by
 refine Eqn.pure o_79 Plain.ok ?_
 refine cc (c':=?z267) ?_ ?_
 case refine_1=>cbv<;>exact rfl
 try simp only [parD] at hc ⊢
 refine A00 ?_;try with_reducible exact tt
 refine CallS.pf 3 3 ⟨29,_⟩ [.int .i64 0,.int .i64 0,.bool false,.int .i64 y,.int .i64 t,.bool f] (hc) (by first | rfl | (simp [he];done)) (R1 he ?_);try with_reducible exact tt
 refine A10 he ?_;try with_reducible exact tt
theorem o_10x {k a b y t e:Int} {f:Bool} (n:Int) (he:e≠0) (hw:Eqn Tryz.prog o_7y [.d (parD k a b),.d (.sl 1 [.int .i64 y,.int .i64 t,.bool f])] [] (.d (.int .i64 e)) []):Eqn Tryz.prog o_74 [.d (parD k a b),.d (.agg [.int .i64 y,.int .i64 t,.bool f]),.d (.int .i64 n)] [] (.tup [.d .nilsl,.d (.int .i64 e)]) []:=by
 refine Eqn.pure o_76 Plain.ok ?_
 refine cc (c':=?z268) ?_ ?_
 case refine_1=>cbv<;>exact rfl
 try simp only [parD] at hw ⊢
 refine A00 ?_;try with_reducible exact tt
 refine CallS.pf 2 3 ⟨29,_⟩ [.int .i64 y,.int .i64 t,.bool f] (hw) (by first | rfl | (simp [he];done)) (R1 he ?_);try with_reducible exact tt
 refine A10 he ?_;try with_reducible exact tt
theorem o_10y {k a b y t:Int} {f:Bool} (n:Int) (hn:n<0∨64<n) (hw:Eqn Tryz.prog o_7y [.d (parD k a b),.d (.sl 1 [.int .i64 y,.int .i64 t,.bool f])] [] (.d (.int .i64 0)) []):Eqn Tryz.prog o_74 [.d (parD k a b),.d (.agg [.int .i64 y,.int .i64 t,.bool f]),.d (.int .i64 n)] [] (.tup [.d .nilsl,.d (.int .i64 2)]) []:=by
 refine Eqn.pure o_76 Plain.ok ?_
 refine cc (c':=?z269) ?_ ?_
 case refine_1=>cbv<;>exact rfl
 try simp only [parD] at hw ⊢
 by_cases h1:n<0
 ·refine A00 ?_;try with_reducible exact tt
  refine CallS.pf 2 3 ⟨29,_⟩ [.int .i64 y,.int .i64 t,.bool f] (hw) (by first | rfl | (simp [h1];done)) (R1 h1 ?_);try with_reducible exact tt
  refine A10 h1 ?_;try with_reducible exact tt
 ·have h2:64<n:=by omega
  refine A00 ?_;try with_reducible exact tt
  refine CallS.pf 2 3 ⟨29,_⟩ [.int .i64 y,.int .i64 t,.bool f] (hw) (by first | rfl | (simp [h1,h2];done)) (R1 (fs h1 h2) ?_);try with_reducible exact tt
  refine A10 (fs h1 h2) ?_;try with_reducible exact tt
theorem o_10z {k a b y t:Int} {f:Bool} (n S:Nat) (hn:n≤64) (hS:S≤1000000) (hc:512<(n+1)*S) (hw:Eqn Tryz.prog o_7y [.d (parD k a b),.d (.sl 1 [.int .i64 y,.int .i64 t,.bool f])] [] (.d (.int .i64 0)) []) (hst:Eqn Tryz.prog o_81 [.d (parD k a b)] [] (.d (.int .i64 S)) []):Eqn Tryz.prog o_74 [.d (parD k a b),.d (.agg [.int .i64 y,.int .i64 t,.bool f]),.d (.int .i64 n)] [] (.tup [.d .nilsl,.d (.int .i64 12)]) []:=by
 refine Eqn.pure o_76 Plain.ok ?_
 have e1:IntKind.i64.wrap ((n:Int)+1)=((n+1:Nat):Int):=by rw [w64 (by omega) (by omega)];omega
 have hM:(n+1)*S≤65*1000000:=Nat.mul_le_mul (by omega) hS
 have e2:IntKind.i64.wrap (((n+1:Nat):Int)*(S:Int))=(((n+1)*S:Nat):Int):=by rw [←Int.natCast_mul];exact w64 (by omega) (by omega)
 obtain ⟨M,hM⟩:∃M,M=(n+1)*S:=⟨_,rfl⟩
 rw [←hM] at e2 hc
 obtain ⟨n1,hn1⟩:∃n1,n1=n+1:=⟨_,rfl⟩
 rw [←hn1] at e1 e2
 have g1:¬(n:Int)<0:=by omega
 have g2:¬(64:Int)<n:=by omega
 have g3:(512:Int)<M:=by omega
 have g5:¬64<n:=by omega
 refine cc (c':=?z270) ?_ ?_
 case refine_1=>cbv<;>exact rfl
 try simp only [parD] at hw hst ⊢
 refine A00 ?_;try with_reducible exact tt
 refine CallS.pf 2 3 ⟨29,_⟩ [.int .i64 y,.int .i64 t,.bool f] (hw) (by first | rfl | (simp [g1,g2,g5];done)) (R1 (fs g1 (fs g2 g5)) ?_);try with_reducible exact tt
 refine A10 (fs g1 (fs g2 (fs g5 e1))) ?_;try with_reducible exact tt
 refine CallS.pu (hst) (R1 (fs e2 (fs g3 hc)) ?_);try with_reducible exact tt
 refine A10 (fs e2 (fs g3 hc)) ?_;try with_reducible exact tt
end
section
open Go.RowKit
theorem o_110 {next:St→Sp} {s t:St} (h:atQ (next s)=[(t,1)]):timesQ next [(s,1)]=[(t,1)]:=by
 unfold timesQ
 rw [o_10g]
 simp only [List.foldl_cons,List.foldl_nil,h]
 unfold innQ
 simp only [List.foldl_cons,List.foldl_nil,addQ,getQ,setQ]
 have e:(0:Rat)+1*1=1:=by grind
 rw [e]
theorem o_111 {k a w x:Nat} (h:GoodC k a w):chP k a x≠0:=by
 unfold chP
 split
 ·rename_i hk
  have:=h.1
  exact o_xg (show 1≤a by omega) x
 ·intro e
  have:=o_xf (expOf k a x)
  rw [e] at this
  simp at this
theorem o_112 {k a w x:Nat} (h:GoodC k a w):ratC k a x x=1:=by
 unfold ratC
 rw [if_pos (Nat.le_refl _),Rat.div_def,Rat.mul_inv_cancel _ (o_111 h)]
theorem o_113 {k a w r:Nat} (h:GoodC k a w) (hr:r<topC w):atQ (stepQ (topC w) (ratC k a r) (r,0,false))=[((r+1,0,false),1)]:=by
 have hn:¬r=topC w:=by omega
 unfold stepQ
 simp only
 rw [if_neg hn,o_112 h]
 have hu:Uq (eitQ 1 (r+1,0,false) (r,0,false)):=(o_uh (fun _=>0) 1 _ _).1
 refine (o_ua hu ?_ (by simp)).symm
 have e:eitQ 1 (r+1,0,false) (r,0,false)=[((r+1,0,false),0+1),((r,0,false),0+(1-1))]:=by
  unfold eitQ addQ
  have hne:¬((r,0,false):St)=(r+1,0,false):=by simp
  simp only [setQ,getQ,if_neg hne]
 have e0:(0:Rat)+1=1:=by grind
 have e1:(0:Rat)+(1-1)=0:=by grind
 rw [e,e0,e1]
 simp [nzQ]
theorem clq0 {k a w:Nat} (h:GoodC k a w):∀r,r≤topC w→clQ (topC w) k a (0,0,false) r=[((r,0,false),1)]
 | 0,_=>rfl
 | r+1,hr=>by
  show timesQ (stepQ (topC w) (ratC k a r)) (clQ (topC w) k a (0,0,false) r)=_
  rw [clq0 h r (by omega)]
  exact o_110 (o_113 h (by omega))
theorem mgq0 {k a w:Nat} (h:GoodC k a w) (o:St) (ho:o.1≤topC w):mgQ (topC w) k a (0,0,false) o=[((o.1,0,false || o.2.2),1)]:=by
 unfold mgQ
 rw [clq0 h o.1 ho]
 exact o_110 (o_10g _)
theorem o_114 {k a w x:Nat} (h:GoodC k a w) (hx:x≤topC w):0<(chP k a x).num:=by
 have h0:0≤chP k a x:=by
  unfold chP
  split
  ·exact (o_xh (Nat.pow_pos (by omega)) (o_zc x (Nat.le_refl x))).1
  ·exact (o_xh (Nat.two_pow_pos _) (o_zd (Nat.le_refl _))).1
 have h1:=Rat.num_nonneg.2 h0
 have h2:(chP k a x).num≠0:=fun e=>o_111 h (Rat.num_eq_zero.1 e)
 omega
theorem o_115 {k a w:Nat} (h:GoodC k a w) (r:Nat) (hr:r<topC w):Eqn Tryz.prog o_dn [.d (.agg (stD (r,0,false))),.p 0 0,.p 1 0] [PO k a w,RO (chP k a r)] (.mp 2) [PO k a w,RO (chP k a r),spO (stepQ (topC w) (ratC k a r) (r,0,false))]:=by
 have hl:=o_v8 k a w
 have hst:stepQ (topC w) (ratC k a r) (r,0,false)=onQ w (r,0,false) (ratC k a r r):=rfl
 rw [hst,o_112 h]
 have hch:=o_zl h (show r<2^w-1 from hr)
 have hrs:=(o_zo h (show r≤topC w by omega)).le (show 1000≤100000 by omega)
 have hn:=o_114 h (show r≤topC w by omega)
 have hdv:=o_xe (chP k a r) (chP k a r) hrs hrs (by omega) hn
 rw [show chP k a r/chP k a r=1 by rw [Rat.div_def,Rat.mul_inv_cancel _ (o_111 h)]] at hdv
 have hon:=o_zn h (r,0,false) (by simp only;omega) 1 (o_uy.le (by omega)) (rD 1) (Sub1.refl _) ⟨_,_,_,rfl⟩
 have e0:((0:Nat):Int)=0:=rfl
 refine Eqn.gen [0,1,5] o_dp (by simp) (by simp) (by rfl) (by decide) (by simp) (by simp [spO,PO,RO]) ?_
 refine cc (c':=?z271) ?_ ?_
 case refine_1=>cbv<;>exact rfl
 try simp only [spO,stD,parD,PO,RO,rD,e0] at hl hch hdv hon ⊢
 generalize spD rcD _=L at *
 generalize natW (chP k a r).num.natAbs=Y0 at *
 generalize natW ((chP k a r).den-1)=Y2 at *
 generalize decide ((chP k a r).num<0)=Y1 at *
 generalize natW (1:Rat).num.natAbs=Z0 at *
 generalize natW ((1:Rat).den-1)=Z2 at *
 generalize decide ((1:Rat).num<0)=Z1 at *
 refine A00 ?_;try with_reducible exact tt
 refine CallS.pu (hl) (R0 ?_);try with_reducible exact tt
 refine CallS.pu (hch) (R0 ?_);try with_reducible exact tt
 refine A00 ?_;try with_reducible exact tt
 refine CallS.pu (hdv) (R0 ?_);try with_reducible exact tt
 refine A00 ?_;try with_reducible exact tt
 refine CallS.nX (hon) (R0 ?_);try with_reducible exact tt
set_option maxHeartbeats 4000000 in
theorem o_116 {k a w:Nat} (h:GoodC k a w) (o:St) (ho:o.1≤topC w):Eqn Tryz.prog o_aq [.d (parD k a w),.d (.agg (stD (0,0,false))),.d (.agg (stD o))] [] (.mp 0) [spO (mgQ (topC w) k a (0,0,false) o)]:=by
 have hl:=o_v8 k a w
 have hsu:=o_v1 (0,0,false)
 have h15:=o_zi h
 have one1:∀t:St,∀p∈[(t,(1:Rat))],Gr 1 1 p.2:=fun t p hp=>by simp at hp;subst hp;exact Gr.one 1
 have nz1:∀t:St,nzQ [(t,(1:Rat))]=[(t,1)]:=fun t=>by simp [nzQ]
 have hsz:size (80*1*(1*1))≤100000:=Nat.le_trans (o_lv (by decide)) (by decide)
 have hfin:Eqn Tryz.prog o_87 [.mp 0,.fn (.func o_dt) [.p 1 0]] [spO (clQ (topC w) k a (0,0,false) o.1),SO o] (.mp 2) [spO (clQ (topC w) k a (0,0,false) o.1),SO o,spO (mgQ (topC w) k a (0,0,false) o)]:=by
  unfold mgQ
  rw [clq0 h o.1 ho]
  exact o_xa (by decide) (fun _=>True) [((o.1,0,false),1)] 1 1 1 (by simp [Uq]) (fun _ _=>trivial) (by rw [nz1];simp) (by rw [nz1];simp) (by simp) (by decide) (by decide) (one1 _) (by decide) (fun t _=>⟨o_xj _ _ _,o_xi t o⟩) hsz
 have hro:∀r,r<o.1→Eqn Tryz.prog o_87 [.mp 0,.fn (.func o_dn) [.p 1 0,.p 2 0]] [spO (clQ (topC w) k a (0,0,false) r),PO k a w,RO (chP k a r)] (.mp 3) [spO (clQ (topC w) k a (0,0,false) r),PO k a w,RO (chP k a r),spO (clQ (topC w) k a (0,0,false) (r+1))]:=fun r hr=>by
  have e:clQ (topC w) k a (0,0,false) (r+1)=timesQ (stepQ (topC w) (ratC k a r)) (clQ (topC w) k a (0,0,false) r):=rfl
  rw [e,clq0 h r (by omega)]
  refine o_xb (by decide) (by decide) (fun t=>t=(r,0,false)) [((r,0,false),1)] 1 1 1 (by simp [Uq]) (fun p hp=>by rw [nz1] at hp;simp at hp;rw [hp]) (by rw [nz1];simp) (by rw [nz1];simp) (by simp) (by decide) (by decide) (one1 _) (by decide) (fun t ht=>?_) hsz
  subst ht
  refine ⟨⟨(o_ui (fun _=>0) _ _ _).1,o_wq _,o_ws _ _ _,fun p hp=>?_⟩,o_115 h r (by omega)⟩
  have hs:=SpD.step (G:=1) (top:=topC w) (c:=ratC k a r) (s:=(r,0,false))
  unfold stepQ at hp
  simp only at hp
  rw [if_neg (show ¬r=topC w by omega),o_112 h] at hp
  have hq:=SpD.eit (D:=1) (P:=fun _=>True) (x:=1) (s:=(r+1,0,false)) (o:=(r,0,false)) (by decide) (Gr.one 1) trivial trivial
  exact hq.gr p hp
 have hch:∀r,r<o.1→Eqn Tryz.prog o_a1 [.d (parD k a w),.d (.int .i64 r)] [] (.tup [.d (rD (chP k a r)),.d (.int .i64 0)]) []:=fun r hr=>o_zl h (by unfold topC at ho;omega)
 have hd0:clQ (topC w) k a (0,0,false) 0=[((0,0,false),1)]:=rfl
 rw [←hd0] at hsu
 obtain ⟨R,hR⟩:∃R,R=mgQ (topC w) k a (0,0,false) o:=⟨_,rfl⟩
 rw [←hR] at hfin ⊢
 obtain ⟨o1,o2,o3⟩:=o
 simp only at ho hfin hro hch
 have e0:((0:Nat):Int)=0:=rfl
 generalize topC w=W at *
 refine Eqn.gen [4] o_as (by simp) (by simp) (by rfl) (by decide) (by simp) (by simp [spO]) ?_
 refine cc (c':=?z272) ?_ ?_
 case refine_1=>cbv<;>exact rfl
 try simp only [spO,stD,parD,PO,RO,SO,rD,e0] at hl hsu hfin hro hch ⊢
 refine A00 ?_;try with_reducible exact tt
 refine CallS.nX (hsu) (R0 ?_);try with_reducible exact tt
 refine AW.loopG (α:=Nat) (fun i=>setS (List.replicate 32 .junk) [(3,.p 0 0),(5,.p 2 0),(7,.mp 3),(14,.d (.int .i64 o1)),(15,.d (.int .i64 (i:Nat)))]) (fun i=>[some ⟨27,[.d (.int .i64 k),.d (.int .i64 a),.d (.int .i64 w)]⟩,none,some ⟨29,[.d (.int .i64 o1),.d (.int .i64 o2),.d (.bool o3)]⟩,some ⟨1000391,(spD rcD (clQ W k a (0,0,false) i)).map .d⟩]) (fun i=>i≤o1) (fun i=>o1-i) 0 ?_ (Nat.zero_le _) ?_ ?_ ?_
 ·intro i hi;simp
 ·simp
 ·simp
 rintro i hi
 simp
 by_cases hi2:i<o1
 ·have hi3:(i:Int)<o1:=by omega
  have ew:IntKind.i64.wrap ((i:Int)+1)=((i+1:Nat):Int):=by rw [w64 (by omega) (by omega)];omega
  have ht:=hro i hi2
  have hci:=hch i hi2
  generalize natW (chP k a i).num.natAbs=Z0 at *
  generalize natW ((chP k a i).den-1)=Z2 at *
  generalize decide ((chP k a i).num<0)=Z1 at *
  refine A10 (fs hi2 hi3) ?_;try with_reducible exact tt
  refine CallS.pu (hl) (R0 ?_);try with_reducible exact tt
  refine CallS.pu (hci) (R0 ?_);try with_reducible exact tt
  refine A00 ?_;try with_reducible exact tt
  refine CallS.g [3,0,4] (ht) (R1 ew ?_);try with_reducible exact tt
  refine A10 ew ?_;try with_reducible exact tt
  refine ⟨i+1,3,5,by omega,by omega,by omega,?_,?_⟩
  ·simp [swT,swH,sw,Ob.sw,V.ren,V.rens]
  ·simp [swT,swH,sw,Ob.sw,V.ren,V.rens]
 ·have h2:i=o1:=by omega
  subst h2
  refine A00 ?_;try with_reducible exact tt
  refine CallS.g [3,2] (hfin) (R0 ?_);try with_reducible exact tt
  done
end
section
open Go.RowKit
def stU (K A B:Nat):Nat:=if K=4 then (A+1)*(B+1) else 2^B
def stepU (K A B:Nat) (s:St):Sp:=if K=4 then stepT A B s else stepQ (topC B) (chP K A) s
theorem o_117 {K A B:Nat} (h:GoodR K A B):1≤stU K A B∧stU K A B≤1000000:=by
 unfold stU
 rcases h with ⟨rfl,h1,h2,h3⟩ | ⟨hk,h⟩
 ·rw [if_pos rfl]
  have:=Nat.mul_le_mul (show A+1≤1024 by omega) (show B+1≤21 by omega)
  have h4:=Nat.mul_pos (show 0<A+1 by omega) (show 0<B+1 by omega)
  omega
 ·rw [if_neg hk]
  have:=Nat.pow_le_pow_right (n:=2) (by omega) h.2.2
  have:=Nat.two_pow_pos B
  omega
theorem o_118 {K A B:Nat} (h:GoodR K A B):Eqn Tryz.prog o_81 [.d (parD K A B)] [] (.d (.int .i64 (stU K A B:Nat))) []:=by
 have hle:=(o_117 h).2
 unfold stU at hle ⊢
 rcases h with ⟨rfl,h1,h2,h3⟩ | ⟨hk,h⟩
 ·rw [if_pos rfl] at hle ⊢
  refine Eqn.pure o_83 Plain.ok ?_
  have e1:IntKind.i64.wrap ((A:Int)+1)=((A+1:Nat):Int):=by rw [w64 (by omega) (by omega)];omega
  have e2:IntKind.i64.wrap ((B:Int)+1)=((B+1:Nat):Int):=by rw [w64 (by omega) (by omega)];omega
  have e3:IntKind.i64.wrap (((A+1:Nat):Int)*((B+1:Nat):Int))=(((A+1)*(B+1):Nat):Int):=by rw [←Int.natCast_mul];exact w64 (by omega) (by omega)
  refine cc (c':=?z273) ?_ ?_
  case refine_1=>cbv<;>exact rfl
  try simp only [parD]
  obtain ⟨A1,hA1⟩:∃A1,A1=A+1:=⟨_,rfl⟩
  obtain ⟨B1,hB1⟩:∃B1,B1=B+1:=⟨_,rfl⟩
  rw [←hA1] at e1 e3 ⊢
  rw [←hB1] at e2 e3 ⊢
  obtain ⟨M,hM⟩:∃M,M=A1*B1:=⟨_,rfl⟩
  rw [←hM] at e3 ⊢
  refine A10 (fs e1 (fs e2 e3)) ?_;try with_reducible exact tt
 ·rw [if_neg hk]
  exact o_x1 hk h.2.2
theorem chG {k a w:Nat} (h:GoodC k a w):∃G E:Nat,0<G∧E≤8192∧G≤2^E∧∀x,x<topC w→Gr G 1 (chP k a x):=by
 by_cases hk:k=1
 ·obtain ⟨h1,h2,h3⟩:=o_zj h hk (Nat.le_refl (topC w))
  refine ⟨(a+1)^topC w,bitsN (a+1)*topC w,Nat.pow_pos (by omega),h3,?_,fun x hx=>?_⟩
  ·rw [Nat.pow_mul]
   exact Nat.pow_le_pow_left (Nat.le_of_lt (o_kn (a+1))) _
  ·unfold chP
   rw [if_pos hk]
   exact o_zc x (by omega)
 ·have ht:=o_zi h
  obtain ⟨e,he⟩:∃e:Nat,e=1100:=⟨_,rfl⟩
  refine ⟨2^e,e,Nat.two_pow_pos _,by omega,Nat.le_refl _,fun x hx=>?_⟩
  unfold chP
  rw [if_neg hk]
  have hx:=expB h hk (x:=x) (by omega)
  rw [←he] at hx
  exact o_zd hx
theorem o_119 {x e:Nat} (h:x≤2^e) (he:e≤600000):size x≤10000:=by
 have h1:=o_k5 h
 have h2:=o_10i e
 omega
structure SmB (K A B:Nat) (Q:Sp):Prop where
 sp:∃D e,e≤580000∧D≤2^e∧SpD D (fun t=>WellR K A B t.1 t.2.1 t.2.2) Q
 len:Q.length≤3000
theorem SmB.rs {K A B:Nat} {Q:Sp} (h:SmB K A B Q):∀p∈Q,RS p.2 10000:=by
 obtain ⟨D,e,he,hD,hs⟩:=h.sp
 exact hs.rs (o_119 hD (by omega))
theorem ordR {K A B:Nat} (hg:GoodR K A B) {Q:Sp} (h:SmB K A B Q):Eqn Tryz.prog o_7g [.d (parD K A B),.d (.sl (atQ Q).length (spD rcD (atQ Q)))] [] (.d (.bool true)) []:=by
 have hrs:=h.rs
 obtain ⟨D,e,he,hD,hs⟩:=h.sp
 have hm:∀p∈atQ Q,p∈Q:=fun p hp=>(List.mem_filter.1 ((o_u5 _).mem_iff.1 hp)).1
 have hl:=Nat.le_trans (o_wt Q) h.len
 refine o_xr hg _ (Nat.le_trans hl (by decide)) (fun p hp=>hs.ky p (hm p hp)) (o_10j hs.nn) (fun i hi=>o_108 hs.uq i hi) (fun p hp=>(hrs p (hm p hp)).le (by omega)) (fun i hi=>?_) (by rw [o_109,o_u6];exact hs.one)
 have h1:=o_10a (fun p hp=>hs.gr p (hm p hp)) i hi
 have h2:i*1≤4096:=by omega
 refine (h1.le h2).rs hs.dp (by decide) (Nat.le_trans (o_119 (e:=12+e) ?_ (by omega)) (by omega))
 rw [Nat.pow_add]
 exact Nat.mul_le_mul (by decide) hD
set_option maxHeartbeats 4000000 in
theorem o_11a {K A B:Nat} (hg:GoodR K A B) (s:St) (hw:WellR K A B s.1 s.2.1 s.2.2) (Q:Nat→Sp) (hQ0:Q 0=[(s,1)]) (n W:Nat) (hn:n≤64) (hcost:(n+1)*W≤512) (hst:Eqn Tryz.prog o_81 [.d (parD K A B)] [] (.d (.int .i64 (W:Nat))) [])
  (hti:∀i,i<n→Eqn Tryz.prog o_87 [.mp 0,.fn (.func o_8a) [.p 1 0]] [spO (Q i),PO K A B] (.mp 2) [spO (Q i),PO K A B,spO (Q (i+1))])
  (hat:Eqn Tryz.prog o_7v [.mp 0] [spO (Q n)] (.d (.sl (atQ (Q n)).length (spD rcD (atQ (Q n))))) [spO (Q n)]):Eqn Tryz.prog o_74 [.d (parD K A B),.d (.agg (stD s)),.d (.int .i64 n)] [] (.tup [.d (.sl (atQ (Q n)).length (spD rcD (atQ (Q n)))),.d (.int .i64 0)]) []:=by
 refine Eqn.pure o_76 Plain.ok ?_
 have hwr:=o_x0 hg s hw
 have hsu:=o_v1 s
 rw [←hQ0] at hsu
 have e1:IntKind.i64.wrap ((n:Int)+1)=((n+1:Nat):Int):=by rw [w64 (by omega) (by omega)];omega
 have e2:IntKind.i64.wrap (((n+1:Nat):Int)*(W:Int))=(((n+1)*W:Nat):Int):=by rw [←Int.natCast_mul];exact w64 (by omega) (by omega)
 obtain ⟨M,hM⟩:∃M,M=(n+1)*W:=⟨_,rfl⟩
 rw [←hM] at e2 hcost
 obtain ⟨n1,hn1⟩:∃n1,n1=n+1:=⟨_,rfl⟩
 rw [←hn1] at e1 e2
 have g1:¬(n:Int)<0:=by omega
 have g2:¬(64:Int)<n:=by omega
 have g3:¬(512:Int)<M:=by omega
 have g4:¬512<M:=by omega
 have g5:¬64<n:=by omega
 generalize hA:atQ (Q n)=AA at *
 refine cc (c':=?z274) ?_ ?_
 case refine_1=>cbv<;>exact rfl
 try simp only [stD,parD,spO,PO] at hwr hst hsu hti hat ⊢
 refine A00 ?_;try with_reducible exact tt
 refine CallS.pf 2 3 ⟨29,[.d (.int .i64 s.1),.d (.int .i64 s.2.1),.d (.bool s.2.2)]⟩ [.int .i64 s.1,.int .i64 s.2.1,.bool s.2.2] (hwr) (by first | rfl | (simp [g1,g2,g5];done)) (R1 (fs g1 (fs g2 g5)) ?_);try with_reducible exact tt
 refine A10 (fs g1 (fs g2 (fs g5 e1))) ?_;try with_reducible exact tt
 refine CallS.pu (hst) (R1 (fs e2 (fs g3 g4)) ?_);try with_reducible exact tt
 refine A10 (fs e2 (fs g3 g4)) ?_;try with_reducible exact tt
 refine CallS.nX (hsu) (R0 ?_);try with_reducible exact tt
 refine AW.loopG (α:=Nat) (fun i=>setS (List.replicate 43 .junk) [(3,.p 0 0),(9,.mp 3),(34,.d (.int .i64 n)),(35,.d (.int .i64 (i:Nat)))]) (fun i=>[some ⟨27,[.d (.int .i64 K),.d (.int .i64 A),.d (.int .i64 B)]⟩,none,none,some ⟨1000391,(spD rcD (Q i)).map .d⟩]) (fun i=>i≤n) (fun i=>n-i) 0 ?_ (Nat.zero_le _) ?_ ?_ ?_
 ·intro i hi;simp
 ·simp
 ·simp
 rintro i hi
 simp
 by_cases hi2:i<n
 ·have hi3:(i:Int)<n:=by omega
  have ew:IntKind.i64.wrap ((i:Int)+1)=((i+1:Nat):Int):=by rw [w64 (by omega) (by omega)];omega
  have ht:=hti i (by omega)
  refine A10 (fs hi2 hi3) ?_;try with_reducible exact tt
  refine CallS.g [3,0] (ht) (R1 ew ?_);try with_reducible exact tt
  refine A10 ew ?_;try with_reducible exact tt
  refine ⟨i+1,3,4,by omega,by omega,by omega,?_,?_⟩
  ·simp [swT,swH,sw,Ob.sw,V.ren,V.rens]
  ·simp [swT,swH,sw,Ob.sw,V.ren,V.rens]
 ·have h2:i=n:=by omega
  subst h2
  refine A00 ?_;try with_reducible exact tt
  refine CallS.g [3] (hat) (R0 ?_);try with_reducible exact tt
  done
theorem SmB.atoms {K A B:Nat} {Q:Sp} (h:SmB K A B Q):Eqn Tryz.prog o_7v [.mp 0] [spO Q] (.d (.sl (atQ Q).length (spD rcD (atQ Q)))) [spO Q]:=by
 have hrs:=h.rs
 obtain ⟨D,e,he,hD,hs⟩:=h.sp
 exact o_wg _ hs.uq hs.nz (Nat.le_trans h.len (by decide)) fun p hp=>(hrs p hp).le (by omega)
theorem wellC {K A B:Nat} (hk:K≠4) {t:St} (ht:okQ (topC B) t):WellR K A B t.1 t.2.1 t.2.2:=.inr ⟨hk,ht.2.1,ht.1,ht.2.2⟩
theorem SmB.sure {K A B:Nat} {s:St} (hw:WellR K A B s.1 s.2.1 s.2.2):SmB K A B [(s,1)]:=⟨⟨1,0,by decide,by decide,SpD.sure s hw (by decide)⟩,by simp⟩
theorem SmB.ofC {K A B D e:Nat} (hk:K≠4) {Q:Sp} (hs:SpD D (okQ (topC B)) Q) (he:e≤580000) (hD:D≤2^e) (hB:B≤10):SmB K A B Q:=by
 refine ⟨⟨D,e,he,hD,hs.dp,hs.uq,hs.one,hs.gd,fun p hp=>wellC hk (hs.ky p hp)⟩,?_⟩
 have:=o_xx hs.uq (top:=topC B) fun p hp=>⟨hs.ky p hp,hs.nn p hp⟩
 have h2:=Nat.pow_le_pow_right (n:=2) (by omega) hB
 unfold topC at this
 omega
theorem SmB.ofT {A B e:Nat} {Q:Sp} (hs:SpOK e (okT A B) Q) (he:e≤580000) (hl:(A+1)*(B+1)≤512):SmB 4 A B Q:=by
 refine ⟨⟨2^e,e,he,Nat.le_refl _,Nat.two_pow_pos _,hs.uq,hs.one,hs.gi,fun p hp=>o_zt (hs.ky p hp)⟩,?_⟩
 have:=o_z5 hs.uq hs.ky
 rw [←Nat.mul_assoc] at this
 omega
theorem ThS.of {A B:Nat} (h:GoodT A B) (hs:(A+1)*(B+1)≤256):ThS A B:=by
 obtain ⟨h1,h2,h3⟩:=h
 have:=Nat.le_mul_of_pos_right (A+1) (show 0<B+1 by omega)
 exact ⟨h1,by omega,by omega,by omega,h1,h2,h3⟩
theorem o_11b {next:St→Sp} {s:St} (hu:Uq (next s)):atQ (timesQ next [(s,1)])=atQ (next s) :=
 o_10f (o_ue _ _) hu fun t=>by
  rw [o_ub t _ (o_ue _ _),o_ub t _ hu,o_uf]
  simp only [exQ];grind
theorem o_11c {K A B:Nat} (hg:GoodR K A B) {s:St} (hw:WellR K A B s.1 s.2.1 s.2.2) (n:Nat) (hn:n≤64) (hcost:(n+1)*stU K A B≤512):∃Q,SmB K A B Q∧Eqn Tryz.prog o_74 [.d (parD K A B),.d (.agg (stD s)),.d (.int .i64 n)] [] (.tup [.d (.sl (atQ Q).length (spD rcD (atQ Q))),.d (.int .i64 0)]) []∧(n=0→atQ Q=[(s,1)])∧(n=1→atQ Q=atQ (stepU K A B s)):=by
 have hst:=o_118 hg
 by_cases h0:n=0
 ·subst h0
  exact ⟨_,SmB.sure hw,o_11a hg s hw (fun _=>[(s,1)]) rfl 0 _ (by omega) hcost hst (fun i hi=>by omega) (SmB.sure hw).atoms,fun _=>o_10g s,fun h=>by omega⟩
 rcases hg with ⟨rfl,hT⟩ | ⟨hk,hC⟩
 ·rcases hw with ⟨-,hw⟩ | ⟨h,-⟩
  rotate_left
  ·exact absurd rfl h
  replace hw:okT A B s:=hw
  unfold stU at hcost
  rw [if_pos rfl] at hcost
  have h2:2*((A+1)*(B+1))≤(n+1)*((A+1)*(B+1)):=Nat.mul_le_mul_right _ (by omega)
  have hS:=ThS.of hT (by omega)
  have hof:=SpOK.of (fun t (ht:okT A B t)=>SpOK.stepT ht) hw n
  have hE:n*(B+(A+1)*B)≤580000:=by
   have h3:B+(A+1)*B≤20+257*20:=Nat.add_le_add hT.2.2 (Nat.mul_le_mul (by have:=Nat.le_mul_of_pos_right (A+1) (show 0<B+1 by omega);omega) hT.2.2)
   exact Nat.le_trans (Nat.mul_le_mul hn h3) (by decide)
  refine ⟨dstT A B s n,SmB.ofT hof hE (by omega),o_zv hS s hw n hn hcost,fun h=>absurd h h0,fun h=>?_⟩
  subst h
  show atQ (timesQ (stepT A B) [(s,1)])=atQ (stepU 4 A B s)
  exact o_11b (SpOK.stepT hw).uq
 ·rcases hw with ⟨h,-⟩ | ⟨-,w1,w2,w3⟩
  ·exact absurd h hk
  have hs:okQ (topC B) s:=⟨w2,w1,w3⟩
  have hw:WellR K A B s.1 s.2.1 s.2.2:=wellC hk hs
  obtain ⟨G,E,hG,hE,hGE,hc⟩:=chG hC
  have hstp:∀t,okQ (topC B) t→SpD G (okQ (topC B)) (stepQ (topC B) (chP K A) t):=fun t ht=>SpD.step hG hc ht
  have hof:=SpD.of hG hstp hs
  have hpw:∀i,G^i≤2^(E*i):=fun i=>by rw [Nat.pow_mul];exact Nat.pow_le_pow_left hGE i
  have hsm:∀i,i≤64→SmB K A B (dstQ K A B s i):=fun i hi=>SmB.ofC hk (hof i) (Nat.le_trans (Nat.mul_le_mul hE hi) (by decide)) (hpw i) hC.2.2
  refine ⟨dstQ K A B s n,hsm n hn,o_11a (.inr ⟨hk,hC⟩) s hw (dstQ K A B s) rfl n _ hn hcost hst (fun i hi=>?_) (hsm n hn).atoms,fun h=>absurd h h0,fun h=>?_⟩
  ·refine o_z1 (f:=o_8a) (next:=stepQ (topC B) (chP K A)) (T1:=27) (x0:=.int .i64 K) (x1:=.int .i64 A) (x2:=.int .i64 B) (by decide) (okQ (topC B)) (dstQ K A B s i) G (G^i) 1 3000 2 6000 (hof i).uq (fun p hp=>(hof i).ky p (List.mem_filter.1 hp).1) (hof i).nz (Nat.le_trans (List.length_filter_le _ _) (hsm i (by omega)).len) (Nat.le_trans (hsm i (by omega)).len (by decide)) (Nat.pow_pos hG) (Nat.le_refl _) (hof i).gr hG (fun t ht=>⟨(hstp t ht).nextJ (o_ws _ _ _) (by decide),o_zq hC t ht.1⟩) ?_ (by omega) (by omega)
   refine Nat.le_trans (o_119 (e:=13+E*(i+1)) ?_ ?_) (by omega)
   ·rw [←Nat.pow_succ,Nat.pow_add]
    exact Nat.mul_le_mul (by decide) (hpw (i+1))
   ·have:=Nat.mul_le_mul hE (show i+1≤64 by omega)
    omega
  ·subst h
   show atQ (timesQ (stepQ (topC B) (chP K A)) [(s,1)])=_
   unfold stepU
   rw [if_neg hk]
   exact o_11b (hstp s hs).uq
end
section
open Go.RowKit
theorem o_11d {K A B:Nat} (hg:GoodR K A B) {s:St} (hw:WellR K A B s.1 s.2.1 s.2.2) (hb:¬512<4*stU K A B):SmB K A B (stepU K A B s)∧Eqn Tryz.prog o_71 [.d (parD K A B),.d (.agg (stD s))] [] (.tup [.d (.sl (atQ (stepU K A B s)).length (spD rcD (atQ (stepU K A B s)))),.d (.int .i64 0)]) []:=by
 have hst:=o_118 hg
 have hwr:=o_x0 hg s hw
 have hc:=o_10u 1 (stD s) (stU K A B) (o_117 hg).2 hwr hst
 rw [if_neg hb] at hc
 have key:SmB K A B (stepU K A B s)∧Eqn Tryz.prog o_7s [.d (parD K A B),.d (.agg (stD s))] [] (.mp 0) [spO (stepU K A B s)]:=by
  unfold stepU
  unfold stU at hb
  rcases hg with ⟨rfl,hT⟩ | ⟨hk,hC⟩
  ·rcases hw with ⟨-,hw⟩ | ⟨h,-⟩
   rotate_left
   ·exact absurd rfl h
   rw [if_pos rfl] at hb ⊢
   have hS:=ThS.of hT (by omega)
   refine ⟨SmB.ofT (SpOK.stepT hw) ?_ (by omega),o_zr hS s hw⟩
   have h3:B+(A+1)*B≤20+257*20:=Nat.add_le_add hT.2.2 (Nat.mul_le_mul (by have:=hS.a;have:=Nat.le_mul_of_pos_right (A+1) (show 0<B+1 by omega);omega) hT.2.2)
   omega
  ·rcases hw with ⟨h,-⟩ | ⟨-,w1,w2,w3⟩
   ·exact absurd h hk
   have hs:okQ (topC B) s:=⟨w2,w1,w3⟩
   rw [if_neg hk]
   obtain ⟨G,E,hG,hE,hGE,hc⟩:=chG hC
   exact ⟨SmB.ofC hk (SpD.step hG hc hs) (Nat.le_trans hE (by decide)) hGE hC.2.2,o_zp hC s hs.1⟩
 obtain ⟨hsm,hstp⟩:=key
 refine ⟨hsm,?_⟩
 have hat:=hsm.atoms
 clear hsm hwr hst
 generalize stepU K A B s=Q at *
 generalize atQ Q=L at *
 refine Eqn.pure o_73 Plain.ok ?_
 obtain ⟨y,t,f⟩:=s
 refine cc (c':=?z275) ?_ ?_
 case refine_1=>cbv<;>exact rfl
 try simp only [parD,stD,spO] at hc hstp hat ⊢
 refine A00 ?_;try with_reducible exact tt
 refine CallS.pf 2 3 ⟨29,_⟩ [.int .i64 y,.int .i64 t,.bool f] (hc) (by first | rfl | (simp;done)) (R0 ?_);try with_reducible exact tt
 refine A00 ?_;try with_reducible exact tt
 refine CallS.nX (hstp) (R0 ?_);try with_reducible exact tt
 refine CallS.g [3] (hat) (R0 ?_);try with_reducible exact tt
theorem o_11e {K A B:Nat} (hg:GoodR K A B) {s:St} (hw:WellR K A B s.1 s.2.1 s.2.2) (hb:¬512<4*stU K A B):∃L:Sp,Eqn Tryz.prog o_77 [.d (parD K A B),.d (.agg [.int .i64 0,.int .i64 0,.bool false]),.d (.agg (stD s))] [] (.tup [.d (.sl L.length (spD rcD L)),.d (.int .i64 0)]) []:=by
 have hst:=o_118 hg
 have hwr:=o_xo hg [(0,0,false),s] (by simp) fun t ht=>by
  simp only [List.mem_cons,List.not_mem_nil,or_false] at ht
  rcases ht with rfl | rfl
  ·exact well0 K A B
  ·exact hw
 have hc:=o_10u 2 (stsD [(0,0,false),s]) (stU K A B) (o_117 hg).2 hwr hst
 rw [if_neg hb] at hc
 have key:∃Q:Sp,Eqn Tryz.prog o_8d [.d (parD K A B),.d (.agg (stD (0,0,false))),.d (.agg (stD s))] [] (.mp 0) [spO Q]∧Eqn Tryz.prog o_7v [.mp 0] [spO Q] (.d (.sl (atQ Q).length (spD rcD (atQ Q)))) [spO Q]:=by
  unfold stU at hb
  rcases hg with ⟨rfl,hT⟩ | ⟨hk,hC⟩
  ·rcases hw with ⟨-,hw⟩ | ⟨h,-⟩
   rotate_left
   ·exact absurd rfl h
   replace hw:okT A B s:=hw
   rw [if_pos rfl] at hb
   have hS:=ThS.of hT (by omega)
   have h0:okT A B (0,0,false):=⟨Nat.zero_le _,Nat.zero_le _,by simp⟩
   have hM:=SpOK.mgT h0 hw
   refine ⟨_,o_10k hS (0,0,false) s h0 hw,(SmB.ofT hM ?_ (by omega)).atoms⟩
   have ha:A≤128:=by have:=Nat.le_mul_of_pos_right (A+1) (show 0<B+1 by omega);omega
   have h3:=Nat.mul_le_mul hT.2.2 ha
   have h4:=Nat.mul_le_mul (show A+A≤256 by omega) hT.2.2
   omega
  ·rcases hw with ⟨h,-⟩ | ⟨-,w1,w2,w3⟩
   ·exact absurd h hk
   have hs:okQ (topC B) s:=⟨w2,w1,w3⟩
   have hcl:=o_116 hC s hs.1
   have hk4:¬(K:Int)=4:=by omega
   refine ⟨mgQ (topC B) K A (0,0,false) s,?_,?_⟩
   ·generalize mgQ (topC B) K A (0,0,false) s=R at *
    have e0:((0:Nat):Int)=0:=rfl
    refine Eqn.gen [3] o_8f (by simp) (by simp) (by rfl) (by decide) (by simp) (by simp [spO]) ?_
    refine cc (c':=?z276) ?_ ?_
    case refine_1=>cbv<;>exact rfl
    try simp only [spO,stD,parD,e0] at hcl ⊢
    refine A10 (fs hk4 hk) ?_;try with_reducible exact tt
    refine CallS.nX (hcl) (R0 ?_);try with_reducible exact tt
   ·rw [mgq0 hC s hs.1]
    have hwl:WellR K A B s.1 0 (false || s.2.2):=by
     refine .inr ⟨hk,rfl,hs.1,fun h=>?_⟩
     rw [Bool.false_or] at h
     exact hs.2.2 h
    exact (SmB.sure (s:=(s.1,0,false || s.2.2)) hwl).atoms
 obtain ⟨Q,hm,hat⟩:=key
 refine ⟨atQ Q,?_⟩
 clear hwr hst
 generalize atQ Q=L at *
 refine Eqn.pure o_79 Plain.ok ?_
 obtain ⟨y,t,f⟩:=s
 have e0:((0:Nat):Int)=0:=rfl
 refine cc (c':=?z277) ?_ ?_
 case refine_1=>cbv<;>exact rfl
 try simp only [parD,stsD,stD,spO,List.flatMap_cons,List.flatMap_nil,List.cons_append,List.nil_append,e0] at hc hm hat ⊢
 refine A00 ?_;try with_reducible exact tt
 refine CallS.pf 3 3 ⟨29,_⟩ [.int .i64 0,.int .i64 0,.bool false,.int .i64 y,.int .i64 t,.bool f] (hc) (by first | rfl | (simp;done)) (R0 ?_);try with_reducible exact tt
 refine A00 ?_;try with_reducible exact tt
 refine CallS.nX (hm) (R0 ?_);try with_reducible exact tt
 refine CallS.g [4] (hat) (R0 ?_);try with_reducible exact tt
end
section
open Go.RowKit
set_option maxHeartbeats 8000000 in
theorem o_11f {k a b y t:Int} {f:Bool} {n:Int} (hc:Eqn Tryz.prog o_ab [.d (parD k a b)] [] (.d (.int .i64 10)) []) (hgd:Eqn Tryz.prog o_7a [.d (parD k a b)] [] (.d (.bool false)) []):Eqn Tryz.prog o_6p [.d (parD k a b),.d (.agg [.int .i64 y,.int .i64 t,.bool f]),.d (.int .i64 n)] [] (.d (.bool true)) []:=by
 refine Eqn.pure o_6r Plain.ok ?_
 have hwn:=o_st k a b
 have hst:=o_su y t f
 have w1:=o_10n hc 1 [.int .i64 y,.int .i64 t,.bool f]
 have w2:=o_10n hc 2 [.int .i64 0,.int .i64 0,.bool false,.int .i64 y,.int .i64 t,.bool f]
 have h1:=o_10v (by decide) (o_10t (by decide) _ _ w1)
 have h2:=o_10x n (by decide) w1
 have h3:=o_10w (by decide) (o_10t (by decide) _ _ w2)
 refine cc (c':=?z278) ?_ ?_
 case refine_1=>cbv<;>exact rfl
 try simp only [parD,tsD] at hwn hst h1 h2 h3 hgd ⊢
 refine A01 o_10h ?_;try with_reducible exact tt
 refine CallS.pu (hwn) (R0 ?_);try with_reducible exact tt
 refine CallS.pu (hst) (R0 ?_);try with_reducible exact tt
 refine A00 ?_;try with_reducible exact tt
 refine CallS.pu (h1) (R0 ?_);try with_reducible exact tt
 refine A00 ?_;try with_reducible exact tt
 refine CallS.pu (h2) (R0 ?_);try with_reducible exact tt
 refine A00 ?_;try with_reducible exact tt
 refine CallS.pu (h3) (R0 ?_);try with_reducible exact tt
 refine A00 ?_;try with_reducible exact tt
 refine CallS.pu (hgd) (R0 ?_);try with_reducible exact tt
 refine A00 ?_;try with_reducible exact tt
set_option maxHeartbeats 8000000 in
theorem o_11g {K A B:Nat} (hg:GoodR K A B) {y t:Int} {f:Bool} {n:Int} (hw:Eqn Tryz.prog o_8v [.d (parD K A B),.d (.agg [.int .i64 y,.int .i64 t,.bool f])] [] (.d (.bool false)) []) (hwl:Eqn Tryz.prog o_7d [.d (parD K A B),.d (.agg [.int .i64 y,.int .i64 t,.bool f])] [] (.d (.bool false)) []):Eqn Tryz.prog o_6p [.d (parD K A B),.d (.agg [.int .i64 y,.int .i64 t,.bool f]),.d (.int .i64 n)] [] (.d (.bool true)) []:=by
 refine Eqn.pure o_6r Plain.ok ?_
 have hwn:=o_st K A B
 have hst:=o_su y t f
 have hgd:=o_t3 hg
 have w1:=o_10s hg (Int.le_refl 0) (o_10p hw)
 have w2:=o_10s hg (by decide:(0:Int)≤1) (o_10q hg hw)
 have h1:=o_10v (by decide) (o_10t (by decide) _ _ w1)
 have h2:=o_10x n (by decide) w1
 have h3:=o_10w (by decide) (o_10t (by decide) _ _ w2)
 refine cc (c':=?z279) ?_ ?_
 case refine_1=>cbv<;>exact rfl
 try simp only [parD,tsD] at hwn hst h1 h2 h3 hgd hwl ⊢
 refine A01 o_10h ?_;try with_reducible exact tt
 refine CallS.pu (hwn) (R0 ?_);try with_reducible exact tt
 refine CallS.pu (hst) (R0 ?_);try with_reducible exact tt
 refine A00 ?_;try with_reducible exact tt
 refine CallS.pu (h1) (R0 ?_);try with_reducible exact tt
 refine A00 ?_;try with_reducible exact tt
 refine CallS.pu (h2) (R0 ?_);try with_reducible exact tt
 refine A00 ?_;try with_reducible exact tt
 refine CallS.pu (h3) (R0 ?_);try with_reducible exact tt
 refine A00 ?_;try with_reducible exact tt
 refine CallS.pu (hgd) (R0 ?_);try with_reducible exact tt
 refine A00 ?_;try with_reducible exact tt
 refine CallS.pu (hwl) (R0 ?_);try with_reducible exact tt
 refine A00 ?_;try with_reducible exact tt

structure StK (K A B Y T:Nat) (f:Bool) (S M:Nat):Prop where
 hg:GoodR K A B
 hw:WellR K A B Y T f
 hwl:Eqn Tryz.prog o_7d [.d (parD K A B),.d (.agg [.int .i64 Y,.int .i64 T,.bool f])] [] (.d (.bool true)) []
 hS:S=stU K A B
 hM:M=(A+1)*(B+1)
theorem StK.S6 {K A B Y T:Nat} {f:Bool} {S M:Nat} (h:StK K A B Y T f S M):1≤S∧S≤1000000:=by rw [h.hS];exact o_117 h.hg
theorem StK.M6 {K A B Y T:Nat} {f:Bool} {S M:Nat} (h:StK K A B Y T f S M):A≤4096∧B≤20∧M≤100000:=by
 have h1:A≤4096∧B≤20:=by
  rcases h.hg with ⟨-,h1,h2,h3⟩ | ⟨-,h1,h2,h3⟩
  ·omega
  ·rcases h1 with ⟨-,-,a,-⟩ | ⟨-,a⟩ | ⟨-,-,a⟩<;>omega
 have h2:=Nat.mul_le_mul (show A+1≤4097 by omega) (show B+1≤21 by omega)
 rw [←h.hM] at h2
 exact ⟨h1.1,h1.2,by omega⟩
theorem StK.wr {K A B Y T:Nat} {f:Bool} {S M:Nat} (h:StK K A B Y T f S M):Eqn Tryz.prog o_7y [.d (parD K A B),.d (.sl 1 [.int .i64 Y,.int .i64 T,.bool f])] [] (.d (.int .i64 0)) []:=o_x0 h.hg (Y,T,f) h.hw
theorem StK.st {K A B Y T:Nat} {f:Bool} {S M:Nat} (h:StK K A B Y T f S M):Eqn Tryz.prog o_81 [.d (parD K A B)] [] (.d (.int .i64 S)) []:=by rw [h.hS];exact o_118 h.hg
theorem StK.big {K A B Y T:Nat} {f:Bool} {S M:Nat} (h:StK K A B Y T f S M) (hb:512<4*S):Eqn Tryz.prog o_71 [.d (parD K A B),.d (.agg [.int .i64 Y,.int .i64 T,.bool f])] [] (.tup [.d .nilsl,.d (.int .i64 12)]) []∧Eqn Tryz.prog o_77 [.d (parD K A B),.d (.agg [.int .i64 0,.int .i64 0,.bool false]),.d (.agg [.int .i64 Y,.int .i64 T,.bool f])] [] (.tup [.d .nilsl,.d (.int .i64 12)]) []:=by
 have w2:=o_xo h.hg [(0,0,false),(Y,T,f)] (by simp) fun t ht=>by
  simp only [List.mem_cons,List.not_mem_nil,or_false] at ht
  rcases ht with rfl | rfl
  ·exact well0 K A B
  ·exact h.hw
 have c1:=o_10u 1 _ S h.S6.2 h.wr h.st
 have c2:=o_10u 2 _ S h.S6.2 w2 h.st
 rw [if_pos hb] at c1 c2
 exact ⟨o_10v (by decide) c1,o_10w (by decide) c2⟩
theorem StK.few {K A B Y T:Nat} {f:Bool} {S M:Nat} (h:StK K A B Y T f S M) (hb:¬512<4*S):∃Q L:Sp,SmB K A B Q∧Q=stepU K A B (Y,T,f)∧Eqn Tryz.prog o_71 [.d (parD K A B),.d (.agg [.int .i64 Y,.int .i64 T,.bool f])] [] (.tup [.d (.sl (atQ Q).length (spD rcD (atQ Q))),.d (.int .i64 0)]) []∧Eqn Tryz.prog o_77 [.d (parD K A B),.d (.agg [.int .i64 0,.int .i64 0,.bool false]),.d (.agg [.int .i64 Y,.int .i64 T,.bool f])] [] (.tup [.d (.sl L.length (spD rcD L)),.d (.int .i64 0)]) []:=by
 rw [h.hS] at hb
 obtain ⟨h1,h2⟩:=o_11d (s:=(Y,T,f)) h.hg h.hw hb
 obtain ⟨L,h3⟩:=o_11e (s:=(Y,T,f)) h.hg h.hw hb
 exact ⟨_,L,h1,rfl,h2,h3⟩
set_option maxHeartbeats 8000000 in
theorem o_11h {K A B Y T:Nat} {f:Bool} {S M:Nat} (h:StK K A B Y T f S M) (n:Int) (hb:512<4*S) (hn:n<0∨64<n):Eqn Tryz.prog o_6p [.d (parD K A B),.d (.agg [.int .i64 Y,.int .i64 T,.bool f]),.d (.int .i64 n)] [] (.d (.bool true)) []:=by
 refine Eqn.pure o_6r Plain.ok ?_
 have hwn:=o_st K A B
 have hst:=o_su Y T f
 have hgd:=o_t3 h.hg
 have hwl:=h.hwl
 obtain ⟨h1,h3⟩:=h.big hb
 have h2:=o_10y n hn h.wr
 refine cc (c':=?z280) ?_ ?_
 case refine_1=>cbv<;>exact rfl
 try simp only [parD,tsD,stD] at hwn hst h1 h2 h3 hgd hwl ⊢
 refine A01 o_10h ?_;try with_reducible exact tt
 refine CallS.pu (hwn) (R0 ?_);try with_reducible exact tt
 refine CallS.pu (hst) (R0 ?_);try with_reducible exact tt
 refine A00 ?_;try with_reducible exact tt
 refine CallS.pu (h1) (R0 ?_);try with_reducible exact tt
 refine A00 ?_;try with_reducible exact tt
 refine CallS.pu (h2) (R0 ?_);try with_reducible exact tt
 refine A00 ?_;try with_reducible exact tt
 refine CallS.pu (h3) (R0 ?_);try with_reducible exact tt
 refine A00 ?_;try with_reducible exact tt
 refine CallS.pu (hgd) (R0 ?_);try with_reducible exact tt
 refine A00 ?_;try with_reducible exact tt
 have hM6:=h.M6
 have hS6:=h.S6
 have eM:IntKind.i64.wrap (((A:Int)+1)*((B:Int)+1))=(M:Int):=by
  have e:((A:Int)+1)*((B:Int)+1)=(M:Int):=by rw [h.hM,Int.natCast_mul];rfl
  rw [e];exact w64 (by omega) (by omega)
 refine CallS.pu (hwl) (R1 eM ?_);try with_reducible exact tt
 refine A10 eM ?_;try with_reducible exact tt
 refine AW.meet (setS (List.replicate 241 .junk) [(2,.d (.int .i64 n)),(7,.p 2 0),(8,.p 3 0),(9,.d .nilsl),(10,.d (.int .i64 12)),(11,.d .nilsl),(12,.d (.int .i64 2)),(14,.d (.int .i64 12)),(16,.d (.int .i64 S))]) [none,none,some ⟨27,[.d (.int .i64 K),.d (.int .i64 A),.d (.int .i64 B)]⟩,some ⟨29,[.d (.int .i64 Y),.d (.int .i64 T),.d (.bool f)]⟩] (Nat.zero_le _) ?_ ?_
 ·have hSd:=h.hS
  unfold stU at hSd
  by_cases hk:K=4
  ·subst hk
   rw [if_pos rfl,←h.hM] at hSd
   subst hSd
   refine A00 ?_;try with_reducible exact tt
  ·rw [if_neg hk] at hSd
   have hk1:¬(K:Int)=4:=by omega
   have e0:(2:Int)^B=(S:Int):=by rw [hSd,Int.natCast_pow];rfl
   refine A10 (fs hk (fs hk1 e0)) ?_;try with_reducible exact tt
   exact Sub1.refl _
 clear eM hM6
 have hbI:512<4*(S:Int):=by omega
 by_cases hn1:n<0
 ·refine A10 (fs hb (fs hbI hn1)) ?_;try with_reducible exact tt
 ·have hn2:64<n:=by omega
  refine A10 (fs hb (fs hbI (fs hn1 hn2))) ?_;try with_reducible exact tt
set_option maxHeartbeats 8000000 in
theorem o_11i {K A B Y T:Nat} {f:Bool} {S M:Nat} (h:StK K A B Y T f S M) (n:Int) (hb:¬512<4*S) (hn:n<0∨64<n):Eqn Tryz.prog o_6p [.d (parD K A B),.d (.agg [.int .i64 Y,.int .i64 T,.bool f]),.d (.int .i64 n)] [] (.d (.bool true)) []:=by
 refine Eqn.pure o_6r Plain.ok ?_
 have hwn:=o_st K A B
 have hst:=o_su Y T f
 have hgd:=o_t3 h.hg
 have hwl:=h.hwl
 obtain ⟨Q,L,hQ,hQe,h1,h3⟩:=h.few hb
 have hord:=ordR h.hg hQ
 have hQl:=Nat.le_trans (o_wt Q) hQ.len
 have hQrs:∀p∈atQ Q,RS p.2 10000:=fun p hp=>hQ.rs p (List.mem_filter.1 ((o_u5 _).mem_iff.1 hp)).1
 have h2:=o_10y n hn h.wr
 clear hQe hQ hQrs
 generalize atQ Q=LQ at *
 refine cc (c':=?z281) ?_ ?_
 case refine_1=>cbv<;>exact rfl
 try simp only [parD,tsD,stD] at hwn hst h1 h2 h3 hgd hwl hord ⊢
 refine A01 o_10h ?_;try with_reducible exact tt
 refine CallS.pu (hwn) (R0 ?_);try with_reducible exact tt
 refine CallS.pu (hst) (R0 ?_);try with_reducible exact tt
 refine A00 ?_;try with_reducible exact tt
 refine CallS.pu (h1) (R0 ?_);try with_reducible exact tt
 refine A00 ?_;try with_reducible exact tt
 refine CallS.pu (h2) (R0 ?_);try with_reducible exact tt
 refine A00 ?_;try with_reducible exact tt
 refine CallS.pu (h3) (R0 ?_);try with_reducible exact tt
 refine A00 ?_;try with_reducible exact tt
 refine CallS.pu (hgd) (R0 ?_);try with_reducible exact tt
 refine A00 ?_;try with_reducible exact tt
 have hM6:=h.M6
 have hS6:=h.S6
 have eM:IntKind.i64.wrap (((A:Int)+1)*((B:Int)+1))=(M:Int):=by
  have e:((A:Int)+1)*((B:Int)+1)=(M:Int):=by rw [h.hM,Int.natCast_mul];rfl
  rw [e];exact w64 (by omega) (by omega)
 refine CallS.pu (hwl) (R1 eM ?_);try with_reducible exact tt
 refine A10 eM ?_;try with_reducible exact tt
 refine AW.meet (setS (List.replicate 241 .junk) [(2,.d (.int .i64 n)),(7,.p 2 0),(8,.p 3 0),(9,.d (.sl LQ.length (spD rcD LQ))),(10,.d (.int .i64 0)),(11,.d .nilsl),(12,.d (.int .i64 2)),(14,.d (.int .i64 0)),(16,.d (.int .i64 S))]) [none,none,some ⟨27,[.d (.int .i64 K),.d (.int .i64 A),.d (.int .i64 B)]⟩,some ⟨29,[.d (.int .i64 Y),.d (.int .i64 T),.d (.bool f)]⟩] (Nat.zero_le _) ?_ ?_
 ·have hSd:=h.hS
  unfold stU at hSd
  by_cases hk:K=4
  ·subst hk
   rw [if_pos rfl,←h.hM] at hSd
   subst hSd
   refine A00 ?_;try with_reducible exact tt
  ·rw [if_neg hk] at hSd
   have hk1:¬(K:Int)=4:=by omega
   have e0:(2:Int)^B=(S:Int):=by rw [hSd,Int.natCast_pow];rfl
   refine A10 (fs hk (fs hk1 e0)) ?_;try with_reducible exact tt
   exact Sub1.refl _
 clear eM hM6
 have hbI:¬512<4*(S:Int):=by omega
 by_cases hn1:n<0
 ·refine A10 (fs hb (fs hbI hn1)) ?_;try with_reducible exact tt
  refine CallS.pu (hord) (R1 hn1 ?_);try with_reducible exact tt
  refine A10 hn1 ?_;try with_reducible exact tt
 ·have hn2:64<n:=by omega
  refine A10 (fs hb (fs hbI (fs hn1 hn2))) ?_;try with_reducible exact tt
  refine CallS.pu (hord) (R1 (fs hn1 hn2) ?_);try with_reducible exact tt
  refine A10 (fs hn1 hn2) ?_;try with_reducible exact tt
set_option maxHeartbeats 8000000 in
theorem o_11j {K A B Y T:Nat} {f:Bool} {S M:Nat} (h:StK K A B Y T f S M) (n:Nat) (hn:n≤64) (hb:512<4*S) (hc:512<(n+1)*S):Eqn Tryz.prog o_6p [.d (parD K A B),.d (.agg [.int .i64 Y,.int .i64 T,.bool f]),.d (.int .i64 n)] [] (.d (.bool true)) []:=by
 refine Eqn.pure o_6r Plain.ok ?_
 have hwn:=o_st K A B
 have hst:=o_su Y T f
 have hgd:=o_t3 h.hg
 have hwl:=h.hwl
 obtain ⟨h1,h3⟩:=h.big hb
 have h2:=o_10z n S hn h.S6.2 hc h.wr h.st
 refine cc (c':=?z282) ?_ ?_
 case refine_1=>cbv<;>exact rfl
 try simp only [parD,tsD,stD] at hwn hst h1 h2 h3 hgd hwl ⊢
 refine A01 o_10h ?_;try with_reducible exact tt
 refine CallS.pu (hwn) (R0 ?_);try with_reducible exact tt
 refine CallS.pu (hst) (R0 ?_);try with_reducible exact tt
 refine A00 ?_;try with_reducible exact tt
 refine CallS.pu (h1) (R0 ?_);try with_reducible exact tt
 refine A00 ?_;try with_reducible exact tt
 refine CallS.pu (h2) (R0 ?_);try with_reducible exact tt
 refine A00 ?_;try with_reducible exact tt
 refine CallS.pu (h3) (R0 ?_);try with_reducible exact tt
 refine A00 ?_;try with_reducible exact tt
 refine CallS.pu (hgd) (R0 ?_);try with_reducible exact tt
 refine A00 ?_;try with_reducible exact tt
 have hM6:=h.M6
 have hS6:=h.S6
 have eM:IntKind.i64.wrap (((A:Int)+1)*((B:Int)+1))=(M:Int):=by
  have e:((A:Int)+1)*((B:Int)+1)=(M:Int):=by rw [h.hM,Int.natCast_mul];rfl
  rw [e];exact w64 (by omega) (by omega)
 refine CallS.pu (hwl) (R1 eM ?_);try with_reducible exact tt
 refine A10 eM ?_;try with_reducible exact tt
 refine AW.meet (setS (List.replicate 241 .junk) [(2,.d (.int .i64 n)),(7,.p 2 0),(8,.p 3 0),(9,.d .nilsl),(10,.d (.int .i64 12)),(11,.d .nilsl),(12,.d (.int .i64 12)),(14,.d (.int .i64 12)),(16,.d (.int .i64 S))]) [none,none,some ⟨27,[.d (.int .i64 K),.d (.int .i64 A),.d (.int .i64 B)]⟩,some ⟨29,[.d (.int .i64 Y),.d (.int .i64 T),.d (.bool f)]⟩] (Nat.zero_le _) ?_ ?_
 ·have hSd:=h.hS
  unfold stU at hSd
  by_cases hk:K=4
  ·subst hk
   rw [if_pos rfl,←h.hM] at hSd
   subst hSd
   refine A00 ?_;try with_reducible exact tt
  ·rw [if_neg hk] at hSd
   have hk1:¬(K:Int)=4:=by omega
   have e0:(2:Int)^B=(S:Int):=by rw [hSd,Int.natCast_pow];rfl
   refine A10 (fs hk (fs hk1 e0)) ?_;try with_reducible exact tt
   exact Sub1.refl _
 clear eM hM6
 have hbI:512<4*(S:Int):=by omega
 have g1:¬(n:Int)<0:=by omega
 have g2:¬(64:Int)<n:=by omega
 have g5:¬64<n:=by omega
 have e1:IntKind.i64.wrap ((n:Int)+1)=((n+1:Nat):Int):=by rw [w64 (by omega) (by omega)];omega
 obtain ⟨n1,hn1⟩:∃n1,n1=n+1:=⟨_,rfl⟩
 obtain ⟨W,hW⟩:∃W,W=n1*S:=⟨_,rfl⟩
 have hW6:W≤65*1000000:=by rw [hW];exact Nat.mul_le_mul (by omega) hS6.2
 have e2:IntKind.i64.wrap (((n:Int)+1)*(S:Int))=(W:Int):=by
  have e:((n:Int)+1)*(S:Int)=(W:Int):=by rw [hW,Int.natCast_mul,hn1];rfl
  rw [e];exact w64 (by omega) (by omega)
 have g3:(512:Int)<W:=by rw [hW,hn1];omega
 have g4:512<W:=by omega
 refine A10 (fs hb (fs hbI (fs g1 (fs g2 (fs g5 (fs e2 (fs g3 g4))))))) ?_;try with_reducible exact tt
set_option maxHeartbeats 8000000 in
theorem o_11k {K A B Y T:Nat} {f:Bool} {S M:Nat} (h:StK K A B Y T f S M) (n:Nat) (hn:n≤64) (hb:¬512<4*S) (hc:512<(n+1)*S):Eqn Tryz.prog o_6p [.d (parD K A B),.d (.agg [.int .i64 Y,.int .i64 T,.bool f]),.d (.int .i64 n)] [] (.d (.bool true)) []:=by
 refine Eqn.pure o_6r Plain.ok ?_
 have hwn:=o_st K A B
 have hst:=o_su Y T f
 have hgd:=o_t3 h.hg
 have hwl:=h.hwl
 obtain ⟨Q,L,hQ,hQe,h1,h3⟩:=h.few hb
 have hord:=ordR h.hg hQ
 have hQl:=Nat.le_trans (o_wt Q) hQ.len
 have hQrs:∀p∈atQ Q,RS p.2 10000:=fun p hp=>hQ.rs p (List.mem_filter.1 ((o_u5 _).mem_iff.1 hp)).1
 have h2:=o_10z n S hn h.S6.2 hc h.wr h.st
 clear hQe hQ hQrs
 generalize atQ Q=LQ at *
 refine cc (c':=?z283) ?_ ?_
 case refine_1=>cbv<;>exact rfl
 try simp only [parD,tsD,stD] at hwn hst h1 h2 h3 hgd hwl hord ⊢
 refine A01 o_10h ?_;try with_reducible exact tt
 refine CallS.pu (hwn) (R0 ?_);try with_reducible exact tt
 refine CallS.pu (hst) (R0 ?_);try with_reducible exact tt
 refine A00 ?_;try with_reducible exact tt
 refine CallS.pu (h1) (R0 ?_);try with_reducible exact tt
 refine A00 ?_;try with_reducible exact tt
 refine CallS.pu (h2) (R0 ?_);try with_reducible exact tt
 refine A00 ?_;try with_reducible exact tt
 refine CallS.pu (h3) (R0 ?_);try with_reducible exact tt
 refine A00 ?_;try with_reducible exact tt
 refine CallS.pu (hgd) (R0 ?_);try with_reducible exact tt
 refine A00 ?_;try with_reducible exact tt
 have hM6:=h.M6
 have hS6:=h.S6
 have eM:IntKind.i64.wrap (((A:Int)+1)*((B:Int)+1))=(M:Int):=by
  have e:((A:Int)+1)*((B:Int)+1)=(M:Int):=by rw [h.hM,Int.natCast_mul];rfl
  rw [e];exact w64 (by omega) (by omega)
 refine CallS.pu (hwl) (R1 eM ?_);try with_reducible exact tt
 refine A10 eM ?_;try with_reducible exact tt
 refine AW.meet (setS (List.replicate 241 .junk) [(2,.d (.int .i64 n)),(7,.p 2 0),(8,.p 3 0),(9,.d (.sl LQ.length (spD rcD LQ))),(10,.d (.int .i64 0)),(11,.d .nilsl),(12,.d (.int .i64 12)),(14,.d (.int .i64 0)),(16,.d (.int .i64 S))]) [none,none,some ⟨27,[.d (.int .i64 K),.d (.int .i64 A),.d (.int .i64 B)]⟩,some ⟨29,[.d (.int .i64 Y),.d (.int .i64 T),.d (.bool f)]⟩] (Nat.zero_le _) ?_ ?_
 ·have hSd:=h.hS
  unfold stU at hSd
  by_cases hk:K=4
  ·subst hk
   rw [if_pos rfl,←h.hM] at hSd
   subst hSd
   refine A00 ?_;try with_reducible exact tt
  ·rw [if_neg hk] at hSd
   have hk1:¬(K:Int)=4:=by omega
   have e0:(2:Int)^B=(S:Int):=by rw [hSd,Int.natCast_pow];rfl
   refine A10 (fs hk (fs hk1 e0)) ?_;try with_reducible exact tt
   exact Sub1.refl _
 clear eM hM6
 have hbI:¬512<4*(S:Int):=by omega
 have g1:¬(n:Int)<0:=by omega
 have g2:¬(64:Int)<n:=by omega
 have g5:¬64<n:=by omega
 have e1:IntKind.i64.wrap ((n:Int)+1)=((n+1:Nat):Int):=by rw [w64 (by omega) (by omega)];omega
 obtain ⟨n1,hn1⟩:∃n1,n1=n+1:=⟨_,rfl⟩
 obtain ⟨W,hW⟩:∃W,W=n1*S:=⟨_,rfl⟩
 have hW6:W≤65*1000000:=by rw [hW];exact Nat.mul_le_mul (by omega) hS6.2
 have e2:IntKind.i64.wrap (((n:Int)+1)*(S:Int))=(W:Int):=by
  have e:((n:Int)+1)*(S:Int)=(W:Int):=by rw [hW,Int.natCast_mul,hn1];rfl
  rw [e];exact w64 (by omega) (by omega)
 have g3:(512:Int)<W:=by rw [hW,hn1];omega
 have g4:512<W:=by omega
 refine A10 (fs hb (fs hbI (fs g1 (fs g2 (fs g5 (fs e2 (fs g3 g4))))))) ?_;try with_reducible exact tt
 refine CallS.pu (hord) (R1 (fs g1 (fs g2 (fs g5 (fs e2 (fs g3 g4))))) ?_);try with_reducible exact tt
 refine A10 (fs g1 (fs g2 (fs g5 (fs e2 (fs g3 g4))))) ?_;try with_reducible exact tt
set_option maxHeartbeats 8000000 in
theorem o_11l {K A B Y T:Nat} {f:Bool} {S M:Nat} (h:StK K A B Y T f S M) (n:Nat) (hn:n≤64) (hb:512<4*S) (hc:¬512<(n+1)*S):Eqn Tryz.prog o_6p [.d (parD K A B),.d (.agg [.int .i64 Y,.int .i64 T,.bool f]),.d (.int .i64 n)] [] (.d (.bool true)) []:=by
 refine Eqn.pure o_6r Plain.ok ?_
 have hwn:=o_st K A B
 have hst:=o_su Y T f
 have hgd:=o_t3 h.hg
 have hwl:=h.hwl
 obtain ⟨h1,h3⟩:=h.big hb
 have hc1:(n+1)*stU K A B≤512:=by rw [←h.hS];omega
 have hmin:min n 1≤n:=Nat.min_le_left _ _
 have hc2:(min n 1+1)*stU K A B≤512:=Nat.le_trans (Nat.mul_le_mul_right _ (by omega)) hc1
 obtain ⟨R,hR,h2,-,-⟩:=o_11c (s:=(Y,T,f)) h.hg h.hw n hn hc1
 obtain ⟨U,hU,h4,hU0,hU1⟩:=o_11c (s:=(Y,T,f)) h.hg h.hw (min n 1) (by omega) hc2
 have hor:=ordR h.hg hR
 have em:min (n:Int) 1=((min n 1:Nat):Int):=by omega
 rw [←em] at h4
 clear hU0 hU1 hU hR em
 generalize atQ R=LM at *
 generalize atQ U=LU at *
 refine cc (c':=?z284) ?_ ?_
 case refine_1=>cbv<;>exact rfl
 try simp only [parD,tsD,stD] at hwn hst h1 h2 h3 hgd hwl hor h4 ⊢
 refine A01 o_10h ?_;try with_reducible exact tt
 refine CallS.pu (hwn) (R0 ?_);try with_reducible exact tt
 refine CallS.pu (hst) (R0 ?_);try with_reducible exact tt
 refine A00 ?_;try with_reducible exact tt
 refine CallS.pu (h1) (R0 ?_);try with_reducible exact tt
 refine A00 ?_;try with_reducible exact tt
 refine CallS.pu (h2) (R0 ?_);try with_reducible exact tt
 refine A00 ?_;try with_reducible exact tt
 refine CallS.pu (h3) (R0 ?_);try with_reducible exact tt
 refine A00 ?_;try with_reducible exact tt
 refine CallS.pu (hgd) (R0 ?_);try with_reducible exact tt
 refine A00 ?_;try with_reducible exact tt
 have hM6:=h.M6
 have hS6:=h.S6
 have eM:IntKind.i64.wrap (((A:Int)+1)*((B:Int)+1))=(M:Int):=by
  have e:((A:Int)+1)*((B:Int)+1)=(M:Int):=by rw [h.hM,Int.natCast_mul];rfl
  rw [e];exact w64 (by omega) (by omega)
 refine CallS.pu (hwl) (R1 eM ?_);try with_reducible exact tt
 refine A10 eM ?_;try with_reducible exact tt
 refine AW.meet (setS (List.replicate 241 .junk) [(2,.d (.int .i64 n)),(7,.p 2 0),(8,.p 3 0),(9,.d .nilsl),(10,.d (.int .i64 12)),(11,.d (.sl LM.length (spD rcD LM))),(12,.d (.int .i64 0)),(14,.d (.int .i64 12)),(16,.d (.int .i64 S))]) [none,none,some ⟨27,[.d (.int .i64 K),.d (.int .i64 A),.d (.int .i64 B)]⟩,some ⟨29,[.d (.int .i64 Y),.d (.int .i64 T),.d (.bool f)]⟩] (Nat.zero_le _) ?_ ?_
 ·have hSd:=h.hS
  unfold stU at hSd
  by_cases hk:K=4
  ·subst hk
   rw [if_pos rfl,←h.hM] at hSd
   subst hSd
   refine A00 ?_;try with_reducible exact tt
  ·rw [if_neg hk] at hSd
   have hk1:¬(K:Int)=4:=by omega
   have e0:(2:Int)^B=(S:Int):=by rw [hSd,Int.natCast_pow];rfl
   refine A10 (fs hk (fs hk1 e0)) ?_;try with_reducible exact tt
   exact Sub1.refl _
 clear eM hM6
 have hbI:512<4*(S:Int):=by omega
 have g1:¬(n:Int)<0:=by omega
 have g2:¬(64:Int)<n:=by omega
 have g5:¬64<n:=by omega
 have e1:IntKind.i64.wrap ((n:Int)+1)=((n+1:Nat):Int):=by rw [w64 (by omega) (by omega)];omega
 obtain ⟨n1,hn1⟩:∃n1,n1=n+1:=⟨_,rfl⟩
 obtain ⟨W,hW⟩:∃W,W=n1*S:=⟨_,rfl⟩
 have hW6:W≤65*1000000:=by rw [hW];exact Nat.mul_le_mul (by omega) hS6.2
 have e2:IntKind.i64.wrap (((n:Int)+1)*(S:Int))=(W:Int):=by
  have e:((n:Int)+1)*(S:Int)=(W:Int):=by rw [hW,Int.natCast_mul,hn1];rfl
  rw [e];exact w64 (by omega) (by omega)
 have g3:¬(512:Int)<W:=by rw [hW,hn1];omega
 have g4:¬512<W:=by omega
 refine A10 (fs hb (fs hbI (fs g1 (fs g2 (fs g5 (fs e2 (fs g3 g4))))))) ?_;try with_reducible exact tt
 refine CallS.pu (hor) (R1 (fs g1 (fs g2 (fs g5 (fs e2 (fs g3 g4))))) ?_);try with_reducible exact tt
 refine A00 ?_;try with_reducible exact tt
 refine CallS.pu (h4) (R0 ?_);try with_reducible exact tt
 refine A00 ?_;try with_reducible exact tt
end
section
open Go.RowKit
set_option maxHeartbeats 8000000 in
theorem o_11m {K A B Y T:Nat} {f:Bool} {S M:Nat} (h:StK K A B Y T f S M) (n:Nat) (hn:n≤64) (hb:¬512<4*S) (hc:¬512<(n+1)*S) (h0:n=0):Eqn Tryz.prog o_6p [.d (parD K A B),.d (.agg [.int .i64 Y,.int .i64 T,.bool f]),.d (.int .i64 n)] [] (.d (.bool true)) []:=by
 refine Eqn.pure o_6r Plain.ok ?_
 have hwn:=o_st K A B
 have hst:=o_su Y T f
 have hgd:=o_t3 h.hg
 have hwl:=h.hwl
 obtain ⟨Q,L,hQ,hQe,h1,h3⟩:=h.few hb
 have hord:=ordR h.hg hQ
 have hQl:=Nat.le_trans (o_wt Q) hQ.len
 have hQrs:∀p∈atQ Q,RS p.2 10000:=fun p hp=>hQ.rs p (List.mem_filter.1 ((o_u5 _).mem_iff.1 hp)).1
 have hc1:(n+1)*stU K A B≤512:=by rw [←h.hS];omega
 have hmin:min n 1≤n:=Nat.min_le_left _ _
 have hc2:(min n 1+1)*stU K A B≤512:=Nat.le_trans (Nat.mul_le_mul_right _ (by omega)) hc1
 obtain ⟨R,hR,h2,-,-⟩:=o_11c (s:=(Y,T,f)) h.hg h.hw n hn hc1
 obtain ⟨U,hU,h4,hU0,hU1⟩:=o_11c (s:=(Y,T,f)) h.hg h.hw (min n 1) (by omega) hc2
 have hor:=ordR h.hg hR
 have em:min (n:Int) 1=((min n 1:Nat):Int):=by omega
 rw [hU0 (by omega)] at h4
 have hsp:spD rcD [((Y,T,f),1)]=stD (Y,T,f)++rcD (1:Rat):=by simp [spD]
 rw [hsp] at h4
 obtain ⟨O1,O2,O3,hO⟩:∃O1 O2 O3,rcD (1:Rat)=[O1,O2,O3]:=⟨_,_,_,rfl⟩
 rw [hO] at h4
 rw [←em] at h4
 clear hU0 hU1 hU hR em hQe hQ hQrs hO hsp
 generalize atQ R=LM at *
 generalize atQ Q=LQ at *
 refine cc (c':=?z285) ?_ ?_
 case refine_1=>cbv<;>exact rfl
 try simp only [parD,tsD,stD,List.length_cons,List.length_nil,List.cons_append,List.nil_append] at hwn hst h1 h2 h3 h4 hgd hwl hord hor ⊢
 refine A01 o_10h ?_;try with_reducible exact tt
 refine CallS.pu (hwn) (R0 ?_);try with_reducible exact tt
 refine CallS.pu (hst) (R0 ?_);try with_reducible exact tt
 refine A00 ?_;try with_reducible exact tt
 refine CallS.pu (h1) (R0 ?_);try with_reducible exact tt
 refine A00 ?_;try with_reducible exact tt
 refine CallS.pu (h2) (R0 ?_);try with_reducible exact tt
 refine A00 ?_;try with_reducible exact tt
 refine CallS.pu (h3) (R0 ?_);try with_reducible exact tt
 refine A00 ?_;try with_reducible exact tt
 refine CallS.pu (hgd) (R0 ?_);try with_reducible exact tt
 refine A00 ?_;try with_reducible exact tt
 have hM6:=h.M6
 have hS6:=h.S6
 have eM:IntKind.i64.wrap (((A:Int)+1)*((B:Int)+1))=(M:Int):=by
  have e:((A:Int)+1)*((B:Int)+1)=(M:Int):=by rw [h.hM,Int.natCast_mul];rfl
  rw [e];exact w64 (by omega) (by omega)
 refine CallS.pu (hwl) (R1 eM ?_);try with_reducible exact tt
 refine A10 eM ?_;try with_reducible exact tt
 refine AW.meet (setS (List.replicate 241 .junk) [(2,.d (.int .i64 n)),(7,.p 2 0),(8,.p 3 0),(9,.d (.sl LQ.length (spD rcD LQ))),(10,.d (.int .i64 0)),(11,.d (.sl LM.length (spD rcD LM))),(12,.d (.int .i64 0)),(14,.d (.int .i64 0)),(16,.d (.int .i64 S))]) [none,none,some ⟨27,[.d (.int .i64 K),.d (.int .i64 A),.d (.int .i64 B)]⟩,some ⟨29,[.d (.int .i64 Y),.d (.int .i64 T),.d (.bool f)]⟩] (Nat.zero_le _) ?_ ?_
 ·have hSd:=h.hS
  unfold stU at hSd
  by_cases hk:K=4
  ·subst hk
   rw [if_pos rfl,←h.hM] at hSd
   subst hSd
   refine A00 ?_;try with_reducible exact tt
  ·rw [if_neg hk] at hSd
   have hk1:¬(K:Int)=4:=by omega
   have e0:(2:Int)^B=(S:Int):=by rw [hSd,Int.natCast_pow];rfl
   refine A10 (fs hk (fs hk1 e0)) ?_;try with_reducible exact tt
   exact Sub1.refl _
 clear eM hM6
 have hbI:¬512<4*(S:Int):=by omega
 have g1:¬(n:Int)<0:=by omega
 have g2:¬(64:Int)<n:=by omega
 have g5:¬64<n:=by omega
 have e1:IntKind.i64.wrap ((n:Int)+1)=((n+1:Nat):Int):=by rw [w64 (by omega) (by omega)];omega
 obtain ⟨n1,hn1⟩:∃n1,n1=n+1:=⟨_,rfl⟩
 obtain ⟨W,hW⟩:∃W,W=n1*S:=⟨_,rfl⟩
 have hW6:W≤65*1000000:=by rw [hW];exact Nat.mul_le_mul (by omega) hS6.2
 have e2:IntKind.i64.wrap (((n:Int)+1)*(S:Int))=(W:Int):=by
  have e:((n:Int)+1)*(S:Int)=(W:Int):=by rw [hW,Int.natCast_mul,hn1];rfl
  rw [e];exact w64 (by omega) (by omega)
 have g3:¬(512:Int)<W:=by rw [hW,hn1];omega
 have g4:¬512<W:=by omega
 have g6:(n:Int)=0:=by omega
 have e0:((0:Nat):Int)=0:=rfl
 refine A10 (fs hb (fs hbI (fs g1 (fs g2 (fs g5 (fs e2 (fs g3 g4))))))) ?_;try with_reducible exact tt
 refine CallS.pu (hord) (R1 (fs g1 (fs g2 (fs g5 (fs e2 (fs g3 g4))))) ?_);try with_reducible exact tt
 refine A10 (fs g1 (fs g2 (fs g5 (fs e2 (fs g3 g4))))) ?_;try with_reducible exact tt
 refine CallS.pu (hor) (R1 (fs g1 (fs g2 (fs g5 (fs e2 (fs g3 g4))))) ?_);try with_reducible exact tt
 refine A00 ?_;try with_reducible exact tt
 refine CallS.pu (h4) (R1 h0 ?_);try with_reducible exact tt
 refine A10 h0 ?_;try with_reducible exact tt
set_option maxHeartbeats 8000000 in
theorem o_11n {K A B Y T:Nat} {f:Bool} {S M:Nat} (h:StK K A B Y T f S M) (n:Nat) (hn:n≤64) (hb:¬512<4*S) (hc:¬512<(n+1)*S) (h0:1≤n):Eqn Tryz.prog o_6p [.d (parD K A B),.d (.agg [.int .i64 Y,.int .i64 T,.bool f]),.d (.int .i64 n)] [] (.d (.bool true)) []:=by
 refine Eqn.pure o_6r Plain.ok ?_
 have hwn:=o_st K A B
 have hst:=o_su Y T f
 have hgd:=o_t3 h.hg
 have hwl:=h.hwl
 obtain ⟨Q,L,hQ,hQe,h1,h3⟩:=h.few hb
 have hord:=ordR h.hg hQ
 have hQl:=Nat.le_trans (o_wt Q) hQ.len
 have hQrs:∀p∈atQ Q,RS p.2 10000:=fun p hp=>hQ.rs p (List.mem_filter.1 ((o_u5 _).mem_iff.1 hp)).1
 have hc1:(n+1)*stU K A B≤512:=by rw [←h.hS];omega
 have hmin:min n 1≤n:=Nat.min_le_left _ _
 have hc2:(min n 1+1)*stU K A B≤512:=Nat.le_trans (Nat.mul_le_mul_right _ (by omega)) hc1
 obtain ⟨R,hR,h2,-,-⟩:=o_11c (s:=(Y,T,f)) h.hg h.hw n hn hc1
 obtain ⟨U,hU,h4,hU0,hU1⟩:=o_11c (s:=(Y,T,f)) h.hg h.hw (min n 1) (by omega) hc2
 have hor:=ordR h.hg hR
 have em:min (n:Int) 1=((min n 1:Nat):Int):=by omega
 rw [hU1 (by omega),←hQe] at h4
 rw [←em] at h4
 clear hU0 hU1 hU hR em hQe hQ
 generalize atQ R=LM at *
 generalize atQ Q=LQ at *
 refine cc (c':=?z286) ?_ ?_
 case refine_1=>cbv<;>exact rfl
 try simp only [parD,tsD,stD,List.length_cons,List.length_nil,List.cons_append,List.nil_append] at hwn hst h1 h2 h3 h4 hgd hwl hord hor ⊢
 refine A01 o_10h ?_;try with_reducible exact tt
 refine CallS.pu (hwn) (R0 ?_);try with_reducible exact tt
 refine CallS.pu (hst) (R0 ?_);try with_reducible exact tt
 refine A00 ?_;try with_reducible exact tt
 refine CallS.pu (h1) (R0 ?_);try with_reducible exact tt
 refine A00 ?_;try with_reducible exact tt
 refine CallS.pu (h2) (R0 ?_);try with_reducible exact tt
 refine A00 ?_;try with_reducible exact tt
 refine CallS.pu (h3) (R0 ?_);try with_reducible exact tt
 refine A00 ?_;try with_reducible exact tt
 refine CallS.pu (hgd) (R0 ?_);try with_reducible exact tt
 refine A00 ?_;try with_reducible exact tt
 have hM6:=h.M6
 have hS6:=h.S6
 have eM:IntKind.i64.wrap (((A:Int)+1)*((B:Int)+1))=(M:Int):=by
  have e:((A:Int)+1)*((B:Int)+1)=(M:Int):=by rw [h.hM,Int.natCast_mul];rfl
  rw [e];exact w64 (by omega) (by omega)
 refine CallS.pu (hwl) (R1 eM ?_);try with_reducible exact tt
 refine A10 eM ?_;try with_reducible exact tt
 refine AW.meet (setS (List.replicate 241 .junk) [(2,.d (.int .i64 n)),(7,.p 2 0),(8,.p 3 0),(9,.d (.sl LQ.length (spD rcD LQ))),(10,.d (.int .i64 0)),(11,.d (.sl LM.length (spD rcD LM))),(12,.d (.int .i64 0)),(14,.d (.int .i64 0)),(16,.d (.int .i64 S))]) [none,none,some ⟨27,[.d (.int .i64 K),.d (.int .i64 A),.d (.int .i64 B)]⟩,some ⟨29,[.d (.int .i64 Y),.d (.int .i64 T),.d (.bool f)]⟩] (Nat.zero_le _) ?_ ?_
 ·have hSd:=h.hS
  unfold stU at hSd
  by_cases hk:K=4
  ·subst hk
   rw [if_pos rfl,←h.hM] at hSd
   subst hSd
   refine A00 ?_;try with_reducible exact tt
  ·rw [if_neg hk] at hSd
   have hk1:¬(K:Int)=4:=by omega
   have e0:(2:Int)^B=(S:Int):=by rw [hSd,Int.natCast_pow];rfl
   refine A10 (fs hk (fs hk1 e0)) ?_;try with_reducible exact tt
   exact Sub1.refl _
 clear eM hM6
 have hbI:¬512<4*(S:Int):=by omega
 have g1:¬(n:Int)<0:=by omega
 have g2:¬(64:Int)<n:=by omega
 have g5:¬64<n:=by omega
 have e1:IntKind.i64.wrap ((n:Int)+1)=((n+1:Nat):Int):=by rw [w64 (by omega) (by omega)];omega
 obtain ⟨n1,hn1⟩:∃n1,n1=n+1:=⟨_,rfl⟩
 obtain ⟨W,hW⟩:∃W,W=n1*S:=⟨_,rfl⟩
 have hW6:W≤65*1000000:=by rw [hW];exact Nat.mul_le_mul (by omega) hS6.2
 have e2:IntKind.i64.wrap (((n:Int)+1)*(S:Int))=(W:Int):=by
  have e:((n:Int)+1)*(S:Int)=(W:Int):=by rw [hW,Int.natCast_mul,hn1];rfl
  rw [e];exact w64 (by omega) (by omega)
 have g3:¬(512:Int)<W:=by rw [hW,hn1];omega
 have g4:¬512<W:=by omega
 have g6:¬(n:Int)=0:=by omega
 have g7:¬n=0:=by omega
 have g8:((n:Int)==0)=false:=by rw [beq_eq_false_iff_ne];omega
 have hLl:=o_tn rcD (fun _=>rfl) LQ
 have hgetA:=o_wv LQ
 refine A10 (fs hb (fs hbI (fs g1 (fs g2 (fs g5 (fs e2 (fs g3 g4))))))) ?_;try with_reducible exact tt
 refine CallS.pu (hord) (R1 (fs g1 (fs g2 (fs g5 (fs e2 (fs g3 g4))))) ?_);try with_reducible exact tt
 refine A10 (fs g1 (fs g2 (fs g5 (fs e2 (fs g3 g4))))) ?_;try with_reducible exact tt
 refine CallS.pu (hor) (R1 (fs g1 (fs g2 (fs g5 (fs e2 (fs g3 g4))))) ?_);try with_reducible exact tt
 refine A00 ?_;try with_reducible exact tt
 refine CallS.pu (h4) (R1 (fs g6 (fs g7 g8)) ?_);try with_reducible exact tt
 refine A10 (fs g6 (fs g7 g8)) ?_;try with_reducible exact tt
 refine AW.loopW (α:=Nat) (fun i=>setS (List.replicate 241 .junk) [(9,.d (.sl LQ.length (spD rcD LQ))),(18,.d (.sl LQ.length (spD rcD LQ))),(204,.d (.int .i64 LQ.length)),(205,.d (.int .i64 (i:Nat)))]) (fun i=>[]) (fun i=>i≤LQ.length) (fun i=>LQ.length-i) 0 (fun _=>rfl) (Nat.zero_le _) 0 (Nat.zero_le _) ?_ ?_ ?_
 ·simp
 ·simp
 rintro i hi
 simp
 by_cases hi2:i<LQ.length
 ·have hi3:(i:Int)<LQ.length:=by omega
  have ew:IntKind.i64.wrap ((i:Int)+1)=((i+1:Nat):Int):=by rw [w64 (by omega) (by omega)];omega
  obtain ⟨s1,s2,s3,q,N1,N2,N3,hp,hN,hgA⟩:=hgetA i hi2
  have hri:=hQrs _ (List.getElem_mem hi2)
  rw [hp] at hri
  simp only at hri
  have hc:=o_o7 q q (hri.le (by omega)) (hri.le (by omega))
  rw [o_qk,o_uu,hN] at hc
  have hb6:i*6+6≤LQ.length*6:=by omega
  have hb7:i*6<LQ.length*6:=by omega
  have hg3:((spD rcD LQ).drop (i*6)).take 3=[.int .i64 s1,.int .i64 s2,.bool s3]:=by
   have:=congrArg (List.take 3) hgA
   rwa [List.take_take] at this
  have hg4:((spD rcD LQ).drop (i*6+3)).take 3=[N1,N2,N3]:=by
   have:=congrArg (List.drop 3) hgA
   rwa [List.drop_take,List.drop_drop] at this
  have hb8:i*6+3≤LQ.length*6:=by omega
  have hb9:i*6+3+3≤LQ.length*6:=by omega
  refine A11 (fs hi2 (fs hi3 (fs hLl (fs hg3 (fs hg4 (fs hb6 (fs hb7 (fs hb8 (fs hb9 ew))))))))) hc ?_;try with_reducible exact tt
  refine ⟨i+1,by omega,by omega,?_⟩
  exact Sub1.refl _
 ·have hi3:¬(i:Int)<LQ.length:=by omega
  refine A10 hi3 ?_;try with_reducible exact tt
theorem o_11o (k a b y t:Int) (f:Bool) (n:Int):Eqn Tryz.prog o_6p [.d (parD k a b),.d (.agg [.int .i64 y,.int .i64 t,.bool f]),.d (.int .i64 n)] [] (.d (.bool true)) []:=by
 rcases o_106 k a b with ⟨K,A,B,rfl,rfl,rfl,hg⟩ | ⟨h1,h2⟩
 ·rcases o_10m hg y t f with ⟨Y,T,rfl,rfl,hw,hwl⟩ | ⟨h1,h2⟩
  ·have h:StK K A B Y T f (stU K A B) ((A+1)*(B+1)):=⟨hg,hw,hwl,rfl,rfl⟩
   by_cases hb:512<4*stU K A B
   ·by_cases hn:n<0∨64<n
    ·exact o_11h h n hb hn
    ·obtain ⟨N,rfl⟩:∃N:Nat,n=N:=⟨n.toNat,by omega⟩
     by_cases hc:512<(N+1)*stU K A B
     ·exact o_11j h N (by omega) hb hc
     ·exact o_11l h N (by omega) hb hc
   ·by_cases hn:n<0∨64<n
    ·exact o_11i h n hb hn
    ·obtain ⟨N,rfl⟩:∃N:Nat,n=N:=⟨n.toNat,by omega⟩
     by_cases hc:512<(N+1)*stU K A B
     ·exact o_11k h N (by omega) hb hc
     ·by_cases h0:N=0
      ·exact o_11m h N (by omega) hb hc h0
      ·exact o_11n h N (by omega) hb hc (by omega)
  ·exact o_11g hg h1 h2
 ·exact o_11f h1 h2
end
section
open Go.RowKit

theorem pst_walk {W:World} (ht:Tabs (memW W)) {k a b y t n:Int} {f:Bool}:Calls Tryz.prog o_6p #[.agg #[.int .i64 k,.int .i64 a,.int .i64 b],.agg #[.int .i64 y,.int .i64 t,.bool f],.int .i64 n] W (fun e W'=>e = .returned (.bool true)∧Same W W') :=
 o_sw o_6r (o_11o k a b y t f n) (V.reps_cons.2 ⟨o_sx (by simp [Value.oneCell']) (by simp [D.reps_cons,D.rep_int]),V.reps_cons.2 ⟨o_sx (by simp [Value.oneCell']) (by simp [D.reps_cons,D.rep_int,D.rep_bool]),V.reps_cons.2 ⟨V.rep_int.2 rfl,V.reps_nil.2 rfl⟩⟩⟩) ht
end
end Go.Proofs.YtidfejfgmlakpaaGreatDoor.Am
