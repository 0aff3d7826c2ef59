/- Parts of the proof: AmMp, AmMq, AmMr, AmMs, AmMt, AmSt, AmUs, AmMe, AmGz, AmCh, AmL, AmM, AmN, AmP, AmQ, AmNx, AmR, AmS, AmU, AmV, AmZ, AmW, AmSw, AmO3. -/
import Derived.Test.YtdakiocgijlgiaaGreatDoorPa
set_option linter.unusedVariables false
set_option linter.unusedSimpArgs false
set_option maxRecDepth 100000
namespace Go.Proofs.YtdakiocgijlgiaaGreatDoor.Am
section
open Go.RowKit
section
variable {P:Program} {o:Oper} {T:List V} {H:List (Option Ob)}

theorem o_2w {kw vw:Nat} {g:Bool} (hk:0<kw) (hv:vw<64) (vs more:List Value) :
  objOf (1000000+(128*kw+2*vw+(if g then 1 else 0))) vs more = .map (entsOf kw vw g vs).toArray (vs.length/(kw+vw)):=by
 unfold objOf TG
 have hg:(if g then 1 else 0)≤1:=by cases g<;>simp
 have hg2:((if g then 1 else 0)==1)=g:=by cases g<;>rfl
 generalize hgb:(if g then 1 else 0)=gb at *
 rw [if_neg (by omega),if_neg (by omega),if_neg (by omega),if_neg (by omega)]
 have e0:1000000+(128*kw+2*vw+gb)-1000000=128*kw+2*vw+gb:=by omega
 rw [e0]
 have e1:(128*kw+2*vw+gb)/128=kw:=by omega
 have e2:(128*kw+2*vw+gb)/2%64=vw:=by omega
 have e3:(128*kw+2*vw+gb)%2=gb:=by omega
 rw [e1,e2,e3,hg2]

theorem o_2x {m:Mem} {t:TypeId} {fs:Array Field} {ks:List Nat} {l r:List D} {vs us:List Value} {b:Bool} (hu:P.underlying t=some (.struct fs)) (hst:P.stoodInHeld t=false) (hk:flatK P 0 fs.toList=some ks)
  (h1:D.reps m.I m.w l vs) (h2:D.reps m.I m.w r us) (he:eqKs ks l r=some b):(Op.equal t (.agg vs.toArray) (.agg us.toArray)).run P m.w = .ok b m.w:=by
 rw [o_29,Op.equalIn]
 simp only [Sem.run_bind,run_underlying hu,Result.andThen_ok,run_program,hst,Bool.false_eq_true,if_false]
 have:=o_2f (P:=P) (d:=9998) (w:=m.w) (I:=m.I) vs.toArray us.toArray _ (fun f s=>rfl) fs.toList 0 ks l r b hk (by simpa using h1) (by simpa using h2) he
 rw [←Array.forIn_toList]
 rw [this]
 cases b<;>simp

theorem o_2y {empty : Bool} {d : Nat} {w : World} (xs : Array Value) (B : Field → Unit → Sem (ForInStep Unit)) (hB : ∀ f s, B f s = (if f.name ≠ "_" then do
    Instr.checkKey empty (d+1) f.type (←part f.type xs f.offset)
    pure (ForInStep.yield ())
   else pure (ForInStep.yield ()))) :
  ∀(fs:List Field) (i:Nat) (ks:List Nat),flatK P i fs=some ks→i+ks.length≤xs.size →
   (forIn fs () B).run P w = .ok () w
 | [],i,ks,hf,hl=>by simp
 | f::fs,i,ks,hf,hl=>by
  simp only [flatK] at hf
  split at hf
  ·rename_i hc
   obtain ⟨hoff,hnm,hagg⟩:=hc
   have hcons:∃k ks',ks=k::ks'∧flatK P (i+1) fs=some ks'∧((∃k',P.underlying f.type=some (.int k'))∨P.underlying f.type=some .bool):=by
    split at hf
    ·rename_i k' l' h1 h2;cases hf;exact ⟨0,l',rfl,h2,.inl ⟨_,h1⟩⟩
    ·rename_i l' h1 h2;cases hf;exact ⟨1,l',rfl,h2,.inr h1⟩
    ·cases hf
   obtain ⟨k,ks',rfl,hf',hu⟩:=hcons
   simp only [List.length_cons] at hl
   have g1:xs[i]?=some xs[i]:=by simp
   have p1:(part f.type xs f.offset).run P w = .ok xs[i] w:=by simp [part,o_f hagg,hoff,g1]
   have q:(Instr.checkKey empty (d+1) f.type xs[i]).run P w = .ok () w:=by
    generalize xs[i]=v
    rw [Instr.checkKey]
    rcases hu with ⟨k',hu⟩ | hu<;>simp [run_underlying hu]
   rw [List.forIn_cons]
   simp only [hB,hnm,Sem.run_bind,if_true,ne_eq,not_false_eq_true,p1,q,Result.andThen_ok,Sem.run_pure]
   exact o_2y xs B hB fs (i+1) ks' hf' (by omega)
  ·cases hf

theorem o_2z {empty:Bool} {w:World} {t:TypeId} {fs:Array Field} {ks:List Nat} {vs:List Value} (hu:P.underlying t=some (.struct fs)) (hk:flatK P 0 fs.toList=some ks) (hl:vs.length=ks.length) :
  (Instr.checkKey empty 10000 t (.agg vs.toArray)).run P w = .ok () w:=by
 rw [show 10000=9998+1+1 from rfl,Instr.checkKey]
 simp only [Sem.run_bind,run_underlying hu,Result.andThen_ok]
 have:=o_2y (P:=P) (empty:=empty) (d:=9998) (w:=w) vs.toArray _ (fun f s=>rfl) fs.toList 0 ks hk (by simp;omega)
 rw [←Array.forIn_toList]
 rw [this]
 rfl

theorem o_30 {ks:List Nat} {vw:Nat} {kl:List D}:∀(n:Nat) (ds:List D) (i:Nat),mfind ks vw kl n ds=some (some i)→i<n∧eqKs ks kl ((ds.drop (i*(ks.length+vw))).take ks.length)=some true
 | 0,_,_,h=>by simp [mfind] at h
 | n+1,ds,i,h=>by
  simp only [mfind] at h
  split at h
  ·rename_i he
   cases h
   exact ⟨by omega,by simpa using he⟩
  ·simp only [Option.map_eq_some_iff] at h
   obtain ⟨r,h1,h2⟩:=h
   cases r with
   | none=>simp at h2
   | some j =>
    simp at h2
    subst h2
    obtain ⟨h3,h4⟩:=o_30 n _ j h1
    refine ⟨by omega,?_⟩
    rw [List.drop_drop] at h4
    rw [Nat.add_mul,Nat.one_mul,Nat.add_comm]
    exact h4
  ·cases h

theorem o_31 {m:Mem} {t:TypeId} {fs:Array Field} {ks:List Nat} {vw:Nat} {kl:List D} {us:List Value} (hu:P.underlying t=some (.struct fs)) (hst:P.stoodInHeld t=false) (hk:flatK P 0 fs.toList=some ks) (hkl:D.reps m.I m.w kl us) :
  ∀(es:List MapEntry) (ds:List D) (vs:List Value) (r:Option Nat) (i:Nat),D.reps m.I m.w ds vs→(∀(j:Nat) (e:MapEntry),es[j]?=some e→e.key = .agg ((vs.drop (j*(ks.length+vw))).take ks.length).toArray)→mfind ks vw kl es.length ds=some r →
   (Instr.findAsking t (.agg us.toArray) es i).run P m.w = .ok (r.map fun j=>(i+j,((es[j]?).map (·.val)).getD undef)) m.w
 | [],ds,vs,r,i,hds,he,h=>by
  simp [mfind] at h
  subst h
  simp [Instr.findAsking]
 | e::es,ds,vs,r,i,hds,he,h=>by
  have hkey:=he 0 e rfl
  simp only [Nat.zero_mul,List.drop_zero] at hkey
  have hrep:=D.reps_take hds ks.length
  have hnext:∀(j:Nat) (e':MapEntry),es[j]?=some e'→e'.key = .agg (((vs.drop (ks.length+vw)).drop (j*(ks.length+vw))).take ks.length).toArray:=fun j e' hj=>by
   have:=he (j+1) e' (by simpa using hj)
   rw [this,List.drop_drop,Nat.add_mul,Nat.one_mul,Nat.add_comm]
  simp only [List.length_cons,mfind] at h
  rw [Instr.findAsking,hkey]
  split at h
  ·rename_i hq
   cases h
   have:=o_2x (P:=P) hu hst hk hkl hrep hq
   simp [this]
  ·rename_i hq
   simp only [Option.map_eq_some_iff] at h
   obtain ⟨r',h1,rfl⟩:=h
   have:=o_2x (P:=P) hu hst hk hkl hrep hq
   have ih:=o_31 hu hst hk hkl es (ds.drop (ks.length+vw)) (vs.drop (ks.length+vw)) r' (i+1) (D.reps_drop hds _) hnext h1
   simp only [Sem.run_bind,this,Result.andThen_ok,Bool.false_eq_true,if_false,ih]
   cases r' with
   | none=>rfl
   | some j =>
    simp [Nat.add_assoc,Nat.add_comm 1 j]
  ·cases h

theorem o_32 {fs:Array Field} {k:Value}:∀(es:List MapEntry) (i:Nat),Instr.findNow (.struct fs) k es i=none∨(es=[]∧Instr.findNow (.struct fs) k es i=some none)
 | [],i=>.inr ⟨rfl,rfl⟩
 | e::es,i=>by
  left
  unfold Instr.findNow
  have:Instr.sameNow (.struct fs) k e.key=none:=by unfold Instr.sameNow;split<;>simp_all
  rw [this]
theorem o_33 {m:Mem} {t:TypeId} {fs:Array Field} {ks:List Nat} {vw:Nat} {kl:List D} {us:List Value} (hu:P.underlying t=some (.struct fs)) (hst:P.stoodInHeld t=false) (hk:flatK P 0 fs.toList=some ks) (hkl:D.reps m.I m.w kl us)
  (es:List MapEntry) (ds:List D) (vs:List Value) (r:Option Nat) (hds:D.reps m.I m.w ds vs) (he:∀(j:Nat) (e:MapEntry),es[j]?=some e→e.key = .agg ((vs.drop (j*(ks.length+vw))).take ks.length).toArray) (h:mfind ks vw kl es.length ds=some r) :
   (Instr.findKey t (.agg us.toArray) es).run P m.w = .ok (r.map fun j=>(j,((es[j]?).map (·.val)).getD undef)) m.w:=by
 unfold Instr.findKey
 simp only [Sem.run_bind,run_underlying hu,Result.andThen_ok]
 rcases o_32 (fs:=fs) (k:=.agg us.toArray) es 0 with h1 | ⟨rfl,h1⟩
 ·rw [h1]
  have:=o_31 hu hst hk hkl es ds vs r 0 hds he h
  simpa using this
 ·rw [h1]
  simp [mfind] at h
  subst h
  simp

theorem o_34 {kw vw:Nat} {g:Bool} {vs:List Value} {j:Nat} {e:MapEntry} (h:(entsOf kw vw g vs)[j]?=some e):j<vs.length/(kw+vw)∧e=⟨.agg ((vs.drop (j*(kw+vw))).take kw).toArray,glue g ((vs.drop (j*(kw+vw)+kw)).take vw),j⟩:=by
 unfold entsOf at h
 rw [List.getElem?_map] at h
 rcases Nat.lt_or_ge j (vs.length/(kw+vw)) with hj | hj
 ·rw [List.getElem?_range hj] at h
  simp at h
  exact ⟨hj,h.symm⟩
 ·rw [List.getElem?_eq_none (by simpa using hj)] at h
  simp at h
theorem o_35 {kw vw:Nat} {g:Bool} {vs:List Value}:(entsOf kw vw g vs).length=vs.length/(kw+vw):=by simp [entsOf]
end
end
section
open Go.RowKit
section
variable {P:Program} {o:Oper} {T:List V} {H:List (Option Ob)}

theorem o_36 {t:TypeId} {T0:Nat} {ks:List Nat} {vw:Nat} {g:Bool} {zd:List D} (h:mtag P t=some (T0,ks,vw,g,zd)) :
  ∃k e fs ie z,P.underlying t=some (.map k e)∧P.underlying k=some (.struct fs)∧flatK P 0 fs.toList=some ks∧aggB P e=some g∧P.info? e=some ie∧ie.zero=some z∧D.ofs z.cells.toList=some zd∧zd.length=vw∧P.stoodInHeld k=false∧zeroAgg z=g ∧
   0<ks.length∧0<vw∧vw<64∧(g=true∨vw=1)∧T0=1000000+(128*ks.length+2*vw+(if g then 1 else 0)):=by
 unfold mtag at h
 split at h
 rotate_left
 ·cases h
 rename_i k e hu
 split at h
 rotate_left
 ·cases h
 rename_i fs ik g' ie h1 h2 h3 h4
 split at h
 rotate_left
 ·cases h
 rename_i ks' z h5 h6
 split at h
 rotate_left
 ·cases h
 rename_i zd' h7
 split at h
 rotate_left
 ·cases h
 rename_i hc
 cases h
 obtain ⟨c1,c2,c3,c4,c5,c6,c7,c8⟩:=hc
 exact ⟨k,e,fs,ie,z,hu,h1,h5,h3,h4,h6,h7,c6,c7,c8,c2,c3,c4,c5,rfl⟩

theorem o_37 (t:TypeId) {T0:Nat} {ks:List Nat} {vw:Nat} {g:Bool} {zd:List D} (ho:o.op = .makeMap t none) (h:mtag P t=some (T0,ks,vw,g,zd)):StepOK P o [] T H (.mp H.length) (H++[some ⟨T0,[]⟩]) [] [H.length]:=by
 obtain ⟨k,e,fs,ie,z,-,-,-,-,-,-,-,-,-,-,hk0,hv0,hv,-,rfl⟩:=o_36 h
 refine StepOK.newO ⟨_,[]⟩ fun m a hb hs _=>⟨[],by simp,by simp,.map (some m.w.heap.size),?_,fun m' hρ _ _=>?_⟩
 ·rw [o_2w hk0 hv]
  simp [execOp,ho,run_makeMap,entsOf]
 ·unfold V.rep;exact ⟨_,hρ,rfl⟩

theorem o_38 {m:Mem} {g:Bool} {l:List D} {vs:List Value} (h:D.reps m.I m.w l vs) (h1:∀u∈vs,u.oneCell'=true) (hg:g=true∨l.length=1):(glD g l).rep m.I m.w (glue g vs):=by
 unfold glD glue
 cases g with
 | true=>simp only [if_true];unfold D.rep;exact ⟨vs,rfl,h1,h⟩
 | false =>
  rcases hg with hg | hg
  ·cases hg
  ·rcases l with _ | ⟨x,_ | ⟨y,l⟩⟩
   ·simp at hg
   ·obtain ⟨v,r,rfl,hx,hr⟩:=D.reps_cons'.1 h
    simpa using hx
   ·simp at hg
theorem o_39 {m:Mem} {g:Bool} {z:Value} {zd:List D} (h:D.ofs z.cells.toList=some zd) (hz:zeroAgg z=g) (hg:g=true∨zd.length=1):(glD g zd).rep m.I m.w z:=by
 obtain ⟨h1,h2⟩:=D.ofs_rep m.I m.w h
 have:=o_38 (m:=m) h1 h2 hg
 have e:glue g z.cells.toList=z:=by
  subst hz
  unfold glue zeroAgg
  cases z<;>simp [Value.cells]
 rwa [e] at this

theorem o_3a (t:TypeId) (x y:Operand) {T0:Nat} {ks:List Nat} {vw:Nat} {g:Bool} {zd:List D} (n:Nat) (kl ds:List D) (ob:Ob) (r:D) (ho:o.op = .lookup t x y false) (h:mtag P t=some (T0,ks,vw,g,zd)) (hx:(X.of x).ev T = .mp n) (hy:(X.of y).ev T = .d (.agg kl)) (hn:H.getD n none=some ob)
  (hT:ob.T=T0) (hkn:kl.length=ks.length) (hd:ob.c=ds.map V.d) (hr:mlook ks vw g zd kl ds=some r):StepOK P o ((X.of x).slots++(X.of y).slots) T H (.d r) H [n] []:=by
 obtain ⟨k,e,fs,ie,z,hu,hku,hks,hag,hie,hz,hzd,hzl,hst,hza,hk0,hv0,hv,hg,rfl⟩:=o_36 h
 refine StepOK.val fun m a hb hs hob=>?_
 obtain ⟨b,vs,more,h1,h2,h3,h4,h5⟩:=hob n (by simp) ob hn
 rw [hT,o_2w hk0 hv] at h2
 rw [hd,V.reps_map_d] at h4
 have hvx:=X.rep' (o_9 hs) hx
 unfold V.rep at hvx
 obtain ⟨b',hb',hvx⟩:=hvx
 rw [h1] at hb';cases hb'
 have hvy:=X.rep' (o_a hs) hy
 rw [V.rep_d] at hvy
 unfold D.rep at hvy
 obtain ⟨us,hvy,hu1,hkl⟩:=hvy
 have hlen:=D.reps_len h4
 unfold mlook at hr
 simp only [Option.map_eq_some_iff] at hr
 obtain ⟨f,hf,hr⟩:=hr
 have hfind:=o_33 (P:=P) (m:=m) hku hst hks hkl (entsOf ks.length vw g vs) ds vs f h4 (fun j e he=>by rw [(o_34 he).2]) (by rw [o_35,hlen];exact hf)
 have hchk:∀em,(Instr.checkKey em 10000 k (.agg us.toArray)).run P m.w = .ok () m.w:=fun em=>o_2z hku hks (by rw [D.reps_len hkl,hkn])
 have hzr:(zeroValue e).run P m.w = .ok z m.w:=by simp [zeroValue,typeInfo,hie,hz]
 cases f with
 | none =>
  simp only at hr
  refine ⟨z,?_,by rw [V.rep_d,←hr];exact o_39 hzd hza (by rw [hzl];exact hg)⟩
  simp [execOp,ho,hvx,hvy,Instr.lookup,run_underlying hu,MapKept.run_getObj_map h2,hchk,hfind,hzr]
 | some j =>
  simp only at hr
  obtain ⟨hj,-⟩:=o_30 _ _ _ hf
  have hje:(entsOf ks.length vw g vs)[j]?=some ⟨.agg ((vs.drop (j*(ks.length+vw))).take ks.length).toArray,glue g ((vs.drop (j*(ks.length+vw)+ks.length)).take vw),j⟩:=by
   have:j<(entsOf ks.length vw g vs).length:=by rw [o_35,hlen];exact hj
   obtain ⟨-,he⟩:=o_34 (List.getElem?_eq_getElem this)
   rw [List.getElem?_eq_getElem this,he]
  have hjl:j*(ks.length+vw)+ks.length+vw≤ds.length:=by
   have:=Nat.div_mul_le_self ds.length (ks.length+vw)
   have h2:(j+1)*(ks.length+vw)≤ds.length/(ks.length+vw)*(ks.length+vw):=Nat.mul_le_mul_right _ hj
   rw [Nat.add_mul,Nat.one_mul] at h2
   omega
  refine ⟨_,?_,by rw [V.rep_d,←hr];exact o_38 (D.reps_take (D.reps_drop h4 _) vw) (fun u hu=>h3 u (List.mem_of_mem_drop (List.mem_of_mem_take hu))) (by rcases hg with hg | hg;exact .inl hg;right;simp;omega)⟩
  simp [execOp,ho,hvx,hvy,Instr.lookup,run_underlying hu,MapKept.run_getObj_map h2,hchk,hfind,hje]
theorem o_3b {I:Nat→Prop} {w:World}:∀(ks:List Nat) (l r:List D) (vs us:List Value),eqKs ks l r=some true→D.reps I w l vs→D.reps I w r us→∀d,(us.zip vs).all (fun (x,y)=>Instr.sameBits d x y)=true∧us.length=vs.length
 | [],l,r,vs,us,h,h1,h2,d=>by
  unfold eqKs at h
  split at h<;>simp_all
 | k::ks,[],r,vs,us,h,h1,h2,d=>by simp [eqKs] at h
 | k::ks,x::l,[],vs,us,h,h1,h2,d=>by simp [eqKs] at h
 | k::ks,x::l,y::r,vs,us,h,h1,h2,d=>by
  simp only [eqKs] at h
  split at h
  rotate_left
  ·cases h
  rename_i a c ha hc
  simp only [Option.some.injEq,Bool.and_eq_true] at h
  obtain ⟨rfl,rfl⟩:=h
  obtain ⟨v,vr,rfl,hv,hvr⟩:=D.reps_cons'.1 h1
  obtain ⟨u,ur,rfl,hu,hur⟩:=D.reps_cons'.1 h2
  obtain ⟨i1,i2⟩:=o_3b ks l r vr ur hc hvr hur d
  refine ⟨?_,by simp [i2]⟩
  have hs:Instr.sameBits d u v=true:=by
   unfold eqK at ha
   split at ha
   ·split at ha
    ·rename_i hk;subst hk
     simp only [Option.some.injEq,beq_iff_eq] at ha
     subst ha
     rw [D.rep_int.1 hv,D.rep_int.1 hu]
     unfold Instr.sameBits;simp
    ·cases ha
   ·simp only [Option.some.injEq,beq_iff_eq] at ha
    subst ha
    rw [D.rep_bool.1 hv,D.rep_bool.1 hu]
    unfold Instr.sameBits;simp
   ·cases ha
  simp only [List.zip_cons_cons,List.all_cons,hs,Bool.true_and]
  exact i1
theorem o_3c {m:Mem} {ks:List Nat} {kl r:List D} {us vs:List Value} (he:eqKs ks kl r=some true) (h1:D.reps m.I m.w kl us) (h2:D.reps m.I m.w r vs):(Instr.keyThatStays (.agg vs.toArray) (.agg us.toArray)).run P m.w = .ok (.agg us.toArray) m.w:=by
 obtain ⟨h3,h4⟩:=o_3b ks kl r us vs he h1 h2 9999
 have:Instr.sameBits 10000 (.agg vs.toArray) (.agg us.toArray)=true:=by
  rw [show 10000=9999+1 from rfl,Instr.sameBits]
  simp only [List.size_toArray,h4,beq_self_eq_true,Bool.true_and]
  exact h3
 unfold Instr.keyThatStays
 rw [if_pos this]
 rfl

theorem o_3d {y:D} {m:Mem} {v:Value} {g:Bool} (hy:y.rep m.I m.w v) (hg:y.isAgg=g):glue g v.cells.toList=v:=by
 subst hg
 unfold glue
 cases y with
 | agg l =>
  unfold D.rep at hy
  obtain ⟨vs,rfl,_,_⟩:=hy
  simp [D.isAgg,Value.cells]
 | _ =>
  unfold D.rep at hy
  first
   | (subst hy;simp [D.isAgg,Value.cells])
   | (obtain ⟨p,cap,rfl,_⟩:=hy;simp [D.isAgg,Value.cells])
   | (obtain ⟨b,o,cap,rfl,_⟩:=hy;simp [D.isAgg,Value.cells])
   | (obtain ⟨p,rfl⟩:=hy;simp [D.isAgg,Value.cells])
   | (obtain ⟨p,rfl,_⟩:=hy;simp [D.isAgg,Value.cells])
   | (obtain ⟨u,rfl,_⟩:=hy;simp [D.isAgg,Value.cells])
   | (obtain ⟨b,o,rfl,_⟩:=hy;simp [D.isAgg,Value.cells])
end
end
section
open Go.RowKit
section
variable {P:Program} {o:Oper} {T:List V} {H:List (Option Ob)}

theorem o_3e {T0:Nat} (h:TG≤T0) (vs more:List Value):∀c e f,objOf T0 vs more≠.cells c e f:=by
 intro c e f
 unfold objOf
 rw [if_neg (by omega)]
 split
 ·unfold iterOf;split<;>simp
 ·split
  ·unfold chanOf;split<;>simp
  ·split<;>simp
def putB (w:World) (b:Nat) (O:Obj):World:={ w with heap:=w.heap.setIfInBounds b O }
theorem o_3f {w:World} {b k:Nat} {O:Obj} (h:k≠b):(putB w b O).heap[k]?=w.heap[k]?:=by
 unfold putB;simp [Array.getElem?_setIfInBounds_ne (Ne.symm h)]
theorem o_3g {w:World} {b:Nat} {O:Obj} (h:b<w.heap.size):(putB w b O).heap[b]?=some O:=by
 unfold putB;simp [h]
theorem o_3h {w:World} {b:Nat} {O:Obj}:(putB w b O).heap.size=w.heap.size:=by unfold putB;simp
theorem o_3i {w:World} {b:Nat} {T0:Nat} {vs more:List Value} (h:TG≤T0) (hb:w.heap[b]?=some (objOf T0 vs more)):w.shape? b=none:=by
 unfold World.shape?
 rw [hb]
 have:=o_3e h vs more
 generalize objOf T0 vs more=O at *
 cases O<;>simp_all

theorem o_3j {m:Mem} (hb:m.base) {n b:Nat} {T0 T1:Nat} {vs more vs':List Value} (h0:TG≤T0) (h1:TG≤T1) (hρ:m.ρ n=some b) (hh:m.w.heap[b]?=some (objOf T0 vs more)) (hI:¬m.I b) :
  m.le ⟨m.ρ,m.I,putB m.w b (objOf T1 vs' [])⟩ (·∈[n]):=by
 have hlt:=hb.dom n b hρ
 refine ⟨fun _ _ h=>h,fun _ h=>h,rfl,rfl,rfl,trivial,by simp only [o_3h];exact Nat.le_refl _,fun k hk hne=>o_3f fun e=>hne n (by simp) (e▸hρ),fun k hk=>?_,fun k hk=>o_3f fun e=>hI (e▸hk),fun _ h=>.inl h,fun _ _ h=>.inl h⟩
 by_cases e:k=b
 ·subst e
  rw [o_3i h0 hh,o_3i h1 (o_3g hlt)]
 ·unfold World.shape?;simp only [o_3f e]

theorem StepOK.swap {S:List Nat} {n:Nat} {ob ob':Ob} (hn:H.getD n none=some ob) (h0:TG≤ob.T) (h1:TG≤ob'.T)
  (h:∀(m:Mem) (a:Act),m.base→Slots m a T S→∀(b:Nat) (vs more:List Value),m.ρ n=some b→m.w.heap[b]?=some (objOf ob.T vs more)→(∀u∈vs,u.oneCell'=true)→V.reps m ob.c vs →
   ∃vs':List Value,(∀u∈vs',u.oneCell'=true)∧V.reps m ob'.c vs'∧(execOp a.eval o).run P m.w = .ok .skip (putB m.w b (objOf ob'.T vs' []))) :
  StepOK P o S T H .junk (H.set n (some ob')) [] [n] where
 same:=fun k hk=>by
  simp at hk
  rw [o_n,if_neg (by omega)]
 len:=by simp
 lt:=fun k hk=>by
  simp at hk;subst hk
  rcases Nat.lt_or_ge k H.length with h | h
  ·simpa using h
  ·rw [List.getD_eq_getElem?_getD,List.getElem?_eq_none h] at hn;cases hn
 wlive:=fun k hk=>by simp at hk;subst hk;exact .inl (by rw [live,hn];rfl)
 run:=by
  intro m a hb hs hob _ _ K Q hK
  obtain ⟨b,vs,more,k1,k2,k3,k4,k5⟩:=hob n (.inr (by simp)) ob hn
  obtain ⟨vs',j1,j2,j3⟩:=h m a hb hs b vs more k1 k2 k3 k4
  have hle:=o_3j (vs':=vs') hb h0 h1 k1 k2 k5
  have hlt:=hb.dom n b k1
  have hH:(H.set n (some ob')).getD n none=some ob':=by
   have hlt:n<H.length:=by
    rcases Nat.lt_or_ge n H.length with h | h
    ·exact h
    ·rw [List.getD_eq_getElem?_getD,List.getElem?_eq_none h] at hn;cases hn
   rw [o_n,if_pos ⟨rfl,hlt⟩]
  unfold Oper.wp
  rw [j3]
  refine hK undef ⟨m.ρ,m.I,putB m.w b (objOf ob'.T vs' [])⟩ ⟨⟨fun k hk=>by simp only [o_3h];exact hb.imm k hk,fun k b' hk=>by simp only [o_3h];exact hb.dom k b' hk,hb.tabs.le hle⟩,hle,by unfold V.rep;trivial,fun k hk ob1 h'=>?_,fun _ _=>rfl,fun k hk _=>?_,fun k hk k' hk' _ _ _=>by simp at hk hk';omega⟩
  ·simp at hk;subst hk
   rw [hH] at h';cases h'
   exact ⟨b,vs',[],k1,o_3g hlt,j1,V.reps_mono hle _ _ j2,k5⟩
  ·simp at hk;subst hk
   exact ⟨b,k1,.inr ⟨k,by simp,by rw [live,hn];rfl,k1⟩⟩

theorem o_3k {kw vw:Nat} (hw:0<kw+vw) {g:Bool} {vs us cs:List Value} {i:Nat} (hi:i<vs.length/(kw+vw)) (hu:us.length=kw) (hc:cs.length=vw) :
  ((entsOf kw vw g vs).toArray.modify i fun e=>{ e with key:=.agg us.toArray,val:=glue g cs })=(entsOf kw vw g (vs.take (i*(kw+vw))++(us++cs)++vs.drop ((i+1)*(kw+vw)))).toArray ∧
  (vs.take (i*(kw+vw))++(us++cs)++vs.drop ((i+1)*(kw+vw))).length=vs.length:=by
 have hle:(i+1)*(kw+vw)≤vs.length:=by
  have h2:(i+1)*(kw+vw)≤vs.length/(kw+vw)*(kw+vw):=Nat.mul_le_mul_right _ hi
  exact Nat.le_trans h2 (Nat.div_mul_le_self _ _)
 have hm:(i+1)*(kw+vw)=i*(kw+vw)+(kw+vw):=by rw [Nat.add_mul,Nat.one_mul]
 have hlen:(vs.take (i*(kw+vw))++(us++cs)++vs.drop ((i+1)*(kw+vw))).length=vs.length:=by
  simp only [List.length_append,List.length_take,List.length_drop];omega
 refine ⟨?_,hlen⟩
 apply Array.ext'
 apply List.ext_getElem?
 intro j
 have hseg:∀a c,a+c≤kw+vw→j≠i→((vs.take (i*(kw+vw))++(us++cs)++vs.drop ((i+1)*(kw+vw))).drop (j*(kw+vw)+a)).take c=(vs.drop (j*(kw+vw)+a)).take c:=by
  intro a c hac hji
  rcases Nat.lt_or_gt_of_ne hji with h | h
  ·have hj2:(j+1)*(kw+vw)≤i*(kw+vw):=Nat.mul_le_mul_right _ h
   rw [Nat.add_mul,Nat.one_mul] at hj2
   rw [List.append_assoc,List.drop_append_of_le_length (by rw [List.length_take];omega),List.take_append_of_le_length (by rw [List.length_drop,List.length_take];omega),List.drop_take,List.take_take]
   congr 1
   omega
  ·have hj2:(i+1)*(kw+vw)≤j*(kw+vw):=Nat.mul_le_mul_right _ h
   have hpre:(vs.take (i*(kw+vw))++(us++cs)).length=(i+1)*(kw+vw):=by simp only [List.length_append,List.length_take];omega
   rw [List.drop_append,List.drop_eq_nil_of_le (by omega),List.nil_append,hpre,List.drop_drop]
   congr 2
   omega
 simp only [Array.toList_modify,List.getElem?_modify]
 rcases Nat.lt_or_ge j (vs.length/(kw+vw)) with hj | hj
 ·have g1:(entsOf kw vw g vs)[j]?=some ⟨.agg ((vs.drop (j*(kw+vw))).take kw).toArray,glue g ((vs.drop (j*(kw+vw)+kw)).take vw),j⟩:=by
   unfold entsOf;rw [List.getElem?_map,List.getElem?_range hj];rfl
  have g2:(entsOf kw vw g (vs.take (i*(kw+vw))++(us++cs)++vs.drop ((i+1)*(kw+vw))))[j]?=some ⟨.agg (((vs.take (i*(kw+vw))++(us++cs)++vs.drop ((i+1)*(kw+vw))).drop (j*(kw+vw))).take kw).toArray,glue g (((vs.take (i*(kw+vw))++(us++cs)++vs.drop ((i+1)*(kw+vw))).drop (j*(kw+vw)+kw)).take vw),j⟩:=by
   unfold entsOf;rw [List.getElem?_map,List.getElem?_range (by rw [hlen];exact hj)];rfl
  rw [g1,g2]
  by_cases e:i=j
  ·subst e
   have hpl:(vs.take (i*(kw+vw))).length=i*(kw+vw):=by rw [List.length_take];omega
   have s1:((vs.take (i*(kw+vw))++(us++cs)++vs.drop ((i+1)*(kw+vw))).drop (i*(kw+vw))).take kw=us:=by
    rw [List.append_assoc,List.drop_append,List.drop_eq_nil_of_le (by omega),List.nil_append,hpl,Nat.sub_self,List.drop_zero,List.append_assoc,List.take_append_of_le_length (by omega),List.take_of_length_le (by omega)]
   have s2:((vs.take (i*(kw+vw))++(us++cs)++vs.drop ((i+1)*(kw+vw))).drop (i*(kw+vw)+kw)).take vw=cs:=by
    rw [List.append_assoc,List.drop_append,List.drop_eq_nil_of_le (by omega),List.nil_append,hpl,Nat.add_sub_cancel_left,List.append_assoc,List.drop_append,List.drop_eq_nil_of_le (by omega),List.nil_append,hu,Nat.sub_self,List.drop_zero,List.take_append_of_le_length (by omega),List.take_of_length_le (by omega)]
   rw [s1,s2]
   simp
  ·have t1:=hseg 0 kw (by omega) (fun h=>e h.symm)
   have t2:=hseg kw vw (by omega) (fun h=>e h.symm)
   rw [Nat.add_zero] at t1
   rw [t1,t2]
   simp [e]
 ·rw [List.getElem?_eq_none (by rw [o_35];exact hj),List.getElem?_eq_none (by rw [o_35,hlen];exact hj)]
  rfl
theorem o_3l {kw vw:Nat} (hw:0<kw+vw) {g:Bool} {vs us cs:List Value} (hd:vs.length%(kw+vw)=0) (hu:us.length=kw) (hc:cs.length=vw) :
  ((entsOf kw vw g vs).toArray.push { key:=.agg us.toArray,val:=glue g cs,born:=vs.length/(kw+vw) })=(entsOf kw vw g (vs++(us++cs))).toArray∧(vs++(us++cs)).length/(kw+vw)=vs.length/(kw+vw)+1:=by
 have hdiv:(vs++(us++cs)).length/(kw+vw)=vs.length/(kw+vw)+1:=by
  simp only [List.length_append,hu,hc]
  exact Nat.add_div_right _ hw
 refine ⟨?_,hdiv⟩
 apply Array.ext'
 simp only [Array.toList_push]
 unfold entsOf
 rw [hdiv,List.range_succ,List.map_append]
 have hq:vs.length/(kw+vw)*(kw+vw)=vs.length:=by have:=Nat.div_add_mod vs.length (kw+vw);rw [hd,Nat.add_zero,Nat.mul_comm] at this;exact this
 congr 1
 ·apply List.map_congr_left
  intro j hj
  rw [List.mem_range] at hj
  have h2:(j+1)*(kw+vw)≤vs.length/(kw+vw)*(kw+vw):=Nat.mul_le_mul_right _ hj
  rw [hq,Nat.add_mul,Nat.one_mul] at h2
  rw [List.drop_append_of_le_length (by omega),List.take_append_of_le_length (by rw [List.length_drop];omega),List.drop_append_of_le_length (by omega),List.take_append_of_le_length (by rw [List.length_drop];omega)]
 ·simp only [List.map_cons,List.map_nil,hq]
  rw [List.drop_append_of_le_length (Nat.le_refl _),List.drop_length,List.nil_append,List.take_append_of_le_length (by omega),List.take_of_length_le (by omega)]
  rw [List.drop_append,List.drop_eq_nil_of_le (by omega),List.nil_append,Nat.add_sub_cancel_left,List.drop_append,List.drop_eq_nil_of_le (by omega),List.nil_append,hu,Nat.sub_self,List.drop_zero,List.take_of_length_le (by omega)]
end
end
section
open Go.RowKit
section
variable {P:Program} {o:Oper} {T:List V} {H:List (Option Ob)}

theorem o_3m (t:TypeId) (x y z:Operand) {T0:Nat} {ks:List Nat} {vw:Nat} {g:Bool} {zd:List D} (n:Nat) (kl ds ds':List D) (ob:Ob) (r:D) (ho:o.op = .mapUpdate t x y z∨o.op = .insert t x y z) (h:mtag P t=some (T0,ks,vw,g,zd)) (hx:(X.of x).ev T = .mp n) (hy:(X.of y).ev T = .d (.agg kl)) (hz:(X.of z).ev T = .d r) (hn:H.getD n none=some ob)
  (hT:ob.T=T0) (hkn:kl.length=ks.length) (hrg:r.isAgg=g) (hd:ob.c=ds.map V.d) (hrl:r.cells.length=vw) (hdl:ds.length%(ks.length+vw)=0) (hr:mset ks vw kl r.cells ds=some ds') :
  StepOK P o ((X.of x).slots++((X.of y).slots++(X.of z).slots)) T H .junk (H.set n (some ⟨T0,ds'.map .d⟩)) [] [n]:=by
 obtain ⟨k,e,fs,ie,zz,hu,hku,hks,hag,hie,hz0,hzd,hzl,hst,hza,hk0,hv0,hv,hg,hT0⟩:=o_36 h
 have hTG:TG≤T0:=by rw [hT0];unfold TG;omega
 refine StepOK.swap hn (by rw [hT];exact hTG) hTG fun m a hb hs b vs more h1 h2 h3 h4=>?_
 rw [hT,hT0,o_2w hk0 hv] at h2
 rw [hd,V.reps_map_d] at h4
 have hvx:=X.rep' (o_9 hs) hx
 unfold V.rep at hvx
 obtain ⟨b',hb',hvx⟩:=hvx
 rw [h1] at hb';cases hb'
 have hvy:=X.rep' (o_9 (o_a hs)) hy
 rw [V.rep_d] at hvy
 unfold D.rep at hvy
 obtain ⟨us,hvy,hu1,hkl⟩:=hvy
 have hvz:=X.rep' (o_a (o_a hs)) hz
 have hcz:=V.cells_rep (m:=m) (x:=.d r) (l:=r.cells.map .d) rfl hvz
 rw [V.reps_map_d] at hcz
 rw [V.rep_d] at hvz
 have hgl:=o_3d (m:=m) hvz hrg
 have hlen:=D.reps_len h4
 have hul:=D.reps_len hkl
 have hcl:=D.reps_len hcz.1
 unfold mset at hr
 simp only [Option.map_eq_some_iff] at hr
 obtain ⟨f,hf,hr⟩:=hr
 have hfind:=o_33 (P:=P) (m:=m) hku hst hks hkl (entsOf ks.length vw g vs) ds vs f h4 (fun j e he=>by rw [(o_34 he).2]) (by rw [o_35,hlen];exact hf)
 have hchk:(Instr.checkKey false 10000 k (.agg us.toArray)).run P m.w = .ok () m.w:=o_2z hku hks (by rw [hul,hkn])
 have hset:=fun O=>MapKept.run_setObj_map (P:=P) (w:=m.w) O h2
 generalize hcs:(a.eval z).cells.toList=cs at *
 have hT1:(⟨T0,ds'.map V.d⟩:Ob).T=T0:=rfl
 cases f with
 | none =>
  simp only at hr
  obtain ⟨p1,p2⟩:=o_3l (kw:=ks.length) (vw:=vw) (g:=g) (vs:=vs) (us:=us) (cs:=cs) (by omega) (by rw [hlen];exact hdl) (by omega) (by omega)
  refine ⟨vs++(us++cs),?_,?_,?_⟩
  ·intro u hu'
   simp only [List.mem_append] at hu'
   rcases hu' with hu' | hu' | hu'
   ·exact h3 u hu'
   ·exact hu1 u hu'
   ·exact hcz.2 u hu'
  ·rw [←hr,V.reps_map_d]
   exact D.reps_append h4 (D.reps_append hkl hcz.1)
  ·rw [hT0,o_2w hk0 hv,←p1,p2,hgl]
   rcases ho with ho | ho <;>
    simp [execOp,ho,hvx,hvy,Instr.mapUpdate,run_underlying hu,MapKept.run_getObj_map h2,hchk,hfind,hset,putB]
 | some j =>
  simp only at hr
  obtain ⟨hj,hje⟩:=o_30 _ _ _ hf
  obtain ⟨p1,p2⟩:=o_3k (g:=g) (vs:=vs) (us:=us) (cs:=cs) (kw:=ks.length) (vw:=vw) (i:=j) (by omega) (by rw [hlen];exact hj) (by omega) (by omega)
  have hjj:(entsOf ks.length vw g vs)[j]?=some ⟨.agg ((vs.drop (j*(ks.length+vw))).take ks.length).toArray,glue g ((vs.drop (j*(ks.length+vw)+ks.length)).take vw),j⟩:=by
   have:j<(entsOf ks.length vw g vs).length:=by rw [o_35,hlen];exact hj
   obtain ⟨-,he⟩:=o_34 (List.getElem?_eq_getElem this)
   rw [List.getElem?_eq_getElem this,he]
  have hst2:=o_3c (P:=P) (m:=m) hje hkl (D.reps_take (D.reps_drop h4 (j*(ks.length+vw))) ks.length)
  refine ⟨vs.take (j*(ks.length+vw))++(us++cs)++vs.drop ((j+1)*(ks.length+vw)),?_,?_,?_⟩
  ·intro u hu'
   simp only [List.mem_append] at hu'
   rcases hu' with (hu' | hu' | hu') | hu'
   ·exact h3 u (List.mem_of_mem_take hu')
   ·exact hu1 u hu'
   ·exact hcz.2 u hu'
   ·exact h3 u (List.mem_of_mem_drop hu')
  ·rw [←hr,V.reps_map_d]
   exact D.reps_append (D.reps_append (D.reps_take h4 _) (D.reps_append hkl hcz.1)) (D.reps_drop h4 _)
  ·rw [hT0,o_2w hk0 hv,←p1,p2,hgl]
   rcases ho with ho | ho <;>
    simp [execOp,ho,hvx,hvy,Instr.mapUpdate,run_underlying hu,MapKept.run_getObj_map h2,hchk,hfind,hjj,hst2,hset,putB]

theorem o_3n (t:TypeId) (x:Operand) {T0:Nat} {ks:List Nat} {vw:Nat} {g:Bool} {zd:List D} (n:Nat) (ob:Ob) (ho:o.op = .range t x) (h:mtag P t=some (T0,ks,vw,g,zd)) (hx:(X.of x).ev T = .mp n) (hn:H.getD n none=some ob) (hT:ob.T=T0) :
  StepOK P o (X.of x).slots T H (.p H.length 0) (H++[some ⟨1000000,[.mp n,.d (.int .i64 (ob.c.length/(ks.length+vw):Nat))]⟩]) [n] [H.length]:=by
 obtain ⟨k,e,fs,ie,zz,hu,hku,hks,hag,hie,hz0,hzd,hzl,hst,hza,hk0,hv0,hv,hg,hT0⟩:=o_36 h
 refine StepOK.newO ⟨1000000,[.mp n,.d (.int .i64 (ob.c.length/(ks.length+vw):Nat))]⟩ fun m a hb hs hob=>?_
 obtain ⟨b,vs,more,h1,h2,h3,h4,h5⟩:=hob n (by simp) ob hn
 rw [hT,hT0,o_2w hk0 hv] at h2
 have hvx:=X.rep' hs hx
 unfold V.rep at hvx
 obtain ⟨b',hb',hvx⟩:=hvx
 rw [h1] at hb';cases hb'
 have hlen:=V.reps_len h4
 refine ⟨[.map (some b),.int .i64 (vs.length/(ks.length+vw):Nat)],by simp [Value.oneCell'],?_,.pointer (some ⟨m.w.heap.size,0,none⟩),?_,fun m' hρ _ _=>?_⟩
 ·refine V.reps_cons.2 ⟨?_,V.reps_cons.2 ⟨?_,V.reps_nil.2 rfl⟩⟩
  ·unfold V.rep;exact ⟨b,h1,rfl⟩
  ·rw [V.rep_d,D.rep_int,hlen]
 ·have e1:objOf 1000000 [.map (some b),.int .i64 (vs.length/(ks.length+vw):Nat)] [] = .mapIter (some b) (vs.length/(ks.length+vw)) #[] (vs.length/(ks.length+vw)):=by
   unfold objOf TG
   rw [if_neg (by omega),if_pos rfl]
   simp only [iterOf,Int.toNat_natCast,List.map_nil]
  rw [e1]
  simp [execOp,ho,hvx,Instr.range,run_underlying hu,MapKept.run_getObj_map h2]
 ·unfold V.rep;exact ⟨_,hρ,rfl⟩
end
end
section
open Go.RowKit
section
variable {P:Program} {o:Oper} {T:List V} {H:List (Option Ob)}

theorem o_3o {T0:Nat} (h:1000000<T0) (hk:0<tagK T0) (vs more:List Value):objOf T0 vs more = .map (entsOf (tagK T0) (tagV T0) (tagG T0) vs).toArray (vs.length/(tagK T0+tagV T0)):=by
 unfold tagK at hk
 unfold objOf TG tagK tagV tagG
 rw [if_neg (by omega),if_neg (by omega),if_neg (by omega),if_neg (by omega)]
theorem o_3p {m:Mem}:∀{r:List V} {l:List Nat} {vs:List Value},seenOf r=some l→V.reps m r vs→vs=l.map fun i:Nat=>Value.int .i64 (i:Int)
 | [],l,vs,h,hr=>by
  simp [seenOf] at h
  subst h
  simpa using hr
 | x::r,l,vs,h,hr=>by
  unfold seenOf at h
  split at h
  ·rename_i he;cases he
  ·rename_i i l' he
   cases he
   split at h
   ·rename_i hi
    simp only [Option.map_eq_some_iff] at h
    obtain ⟨l2,h1,rfl⟩:=h
    obtain ⟨v,u,rfl,hv,hu⟩:=V.reps_cons'.1 hr
    rw [V.rep_int.1 hv,o_3p h1 hu]
    simp [Int.toNat_of_nonneg hi]
   ·cases h
  ·cases h
theorem o_3q {m:Mem} {n k N:Nat} {l:List Nat} {ob:Ob} (hit:iterV ob=some (k,N,l)) (h:m.obj n ob):∃r b,∃vs:List Value,m.ρ n=some r∧m.ρ k=some b∧m.w.heap[r]?=some (.mapIter (some b) N l.toArray N)∧¬m.I r∧ob.T=1000000∧(∀u∈vs,u.oneCell'=true)∧V.reps m ob.c vs ∧
  (∀i:Nat,iterOf (vs++[.int .i64 (i:Int)]) = .mapIter (some b) N (l++[i]).toArray N):=by
 unfold iterV at hit
 split at hit
 rotate_left
 ·cases hit
 rename_i hT
 split at hit
 rotate_left
 ·cases hit
 rename_i k' N' r' hc
 simp only [Option.map_eq_some_iff] at hit
 obtain ⟨l',h1,h2⟩:=hit
 cases h2
 obtain ⟨r,vs,more,g1,g2,g3,g4,g5⟩:=h
 have g4':=g4
 rw [hc] at g4'
 obtain ⟨v0,us0,rfl,e1,q1⟩:=V.reps_cons'.1 g4'
 obtain ⟨v1,us,rfl,e2,q2⟩:=V.reps_cons'.1 q1
 unfold V.rep at e1
 obtain ⟨b,e1,rfl⟩:=e1
 rw [V.rep_int] at e2
 subst e2
 have hs:=o_3p h1 q2
 subst hs
 have key:∀l:List Nat,(l.map fun i:Nat=>Value.int .i64 (i:Int)).map seenVal=l:=by
  intro l
  rw [List.map_map]
  have:(seenVal ∘ fun i:Nat=>Value.int .i64 (i:Int))=(id:Nat→Nat):=by funext i;simp [seenVal]
  rw [this,List.map_id]
 refine ⟨r,b,_,g1,e1,?_,g5,hT,g3,g4,fun i=>?_⟩
 ·rw [g2]
  unfold objOf TG
  rw [hT,if_neg (by omega),if_pos rfl]
  simp only [iterOf]
  rw [key]
 ·simp only [List.cons_append,iterOf]
  have:=key (l++[i])
  rw [List.map_append] at this
  simp only [List.map_cons,List.map_nil] at this
  rw [this]

theorem o_3r (x:Operand) (n k N i:Nat) (l:List Nat) (ds:List D) (ob obk:Ob) (ho:o.op = .entry x) (hx:(X.of x).ev T = .p n 0) (hn:H.getD n none=some ob) (hit:iterV ob=some (k,N,l)) (hk:H.getD k none=some obk) (hd:obk.c=ds.map V.d) (hi:l.getLast?=some i)
  (h1:1000000<obk.T) (h2:0<tagK obk.T) (h3:ds.length/(tagK obk.T+tagV obk.T)=N) (h4:i<N) (h5:tagG obk.T=true∨tagV obk.T=1) :
  StepOK P o (X.of x).slots T H (.tup [.d (.agg ((ds.drop (i*(tagK obk.T+tagV obk.T))).take (tagK obk.T))),.d (glD (tagG obk.T) ((ds.drop (i*(tagK obk.T+tagV obk.T)+tagK obk.T)).take (tagV obk.T)))]) H [k,n] []:=by
 have htag:=fun vs more=>o_3o h1 h2 vs more
 generalize tagK obk.T=kw at *
 generalize tagV obk.T=vw at *
 generalize tagG obk.T=tg at *
 refine StepOK.val fun m a hb hs hob=>?_
 obtain ⟨r,b,us,g1,g2,g3,g4,g5,-,-,-⟩:=o_3q hit (hob n (by simp) ob hn)
 obtain ⟨b',vs,more,k1,k2,k3,k4,k5⟩:=hob k (by simp) obk hk
 rw [g2] at k1;cases k1
 rw [htag] at k2
 rw [hd,V.reps_map_d] at k4
 have hlen:=D.reps_len k4
 have hvx:=X.rep' hs hx
 unfold V.rep at hvx
 obtain ⟨r',hr',hvx⟩:=hvx
 rw [g1] at hr';cases hr'
 have hl:l.toArray.back?=some i:=by rw [←hi];simp
 have hj:i<(entsOf (kw) (vw) (tg) vs).length:=by rw [o_35,hlen,h3];exact h4
 have hje:(entsOf (kw) (vw) (tg) vs)[i]?=some ⟨.agg ((vs.drop (i*(kw+vw))).take (kw)).toArray,glue (tg) ((vs.drop (i*(kw+vw)+kw)).take (vw)),i⟩:=by
  obtain ⟨-,he⟩:=o_34 (List.getElem?_eq_getElem hj)
  rw [List.getElem?_eq_getElem hj,he]
 have hfind:(entsOf (kw) (vw) (tg) vs).find? (fun e=>e.born==i)=(entsOf (kw) (vw) (tg) vs)[i]?:=by
  have key:∀(L:List MapEntry) (s:Nat),(∀j e,L[j]?=some e→e.born=s+j)→∀j,j<L.length→L.find? (fun e=>e.born==s+j)=L[j]?:=by
   intro L
   induction L with
   | nil=>intro s _ j hj;simp at hj
   | cons e L ih =>
    intro s hs j hj
    cases j with
    | zero =>
     have:=hs 0 e rfl
     simp [this]
    | succ j =>
     have h0:=hs 0 e rfl
     rw [List.find?_cons_of_neg (by simp [h0])]
     have:=ih (s+1) (fun j e he=>by have:=hs (j+1) e (by simpa using he);omega) j (by simpa using hj)
     rw [show s+(j+1)=s+1+j by omega,this]
     simp
  have:=key (entsOf (kw) (vw) (tg) vs) 0 (fun j e he=>by rw [(o_34 he).2];simp) i hj
  simpa using this
 rw [hje] at hfind
 have hil:i*(kw+vw)+kw+vw≤ds.length:=by
  have:=Nat.div_mul_le_self ds.length (kw+vw)
  rw [h3] at this
  have h6:(i+1)*(kw+vw)≤N*(kw+vw):=Nat.mul_le_mul_right _ h4
  rw [Nat.add_mul,Nat.one_mul] at h6
  omega
 refine ⟨.tuple #[.agg ((vs.drop (i*(kw+vw))).take (kw)).toArray,glue (tg) ((vs.drop (i*(kw+vw)+kw)).take (vw))],?_,?_⟩
 ·have hgi:(getObj r).run P m.w = .ok (.mapIter (some b) N l.toArray N) m.w:=by simp [getObj,Sem.run,g3]
  have hcl:vs.length/(kw+vw)=N:=by rw [hlen,h3]
  rw [hcl] at k2
  have hgm:=MapKept.run_getObj_map (P:=P) k2
  have hrun:(Instr.entry (.pointer (some ⟨r,0,none⟩))).run P m.w = .ok (.tuple #[.agg ((vs.drop (i*(kw+vw))).take (kw)).toArray,glue (tg) ((vs.drop (i*(kw+vw)+kw)).take (vw))]) m.w:=by
   unfold Instr.entry
   simp only [Sem.run_bind,hgi,Result.andThen_ok,hl,hgm,bne_self_eq_false,Bool.false_eq_true,if_false,List.find?_toArray,hfind,Sem.run_pure]
  generalize Value.tuple _=tv at hrun ⊢
  simp [execOp,ho,hvx,hrun]
 ·unfold V.rep
  refine ⟨[.agg ((vs.drop (i*(kw+vw))).take (kw)).toArray,glue (tg) ((vs.drop (i*(kw+vw)+kw)).take (vw))],by simp,V.reps_cons.2 ⟨?_,V.reps_cons.2 ⟨?_,V.reps_nil.2 rfl⟩⟩⟩
  ·rw [V.rep_d]
   unfold D.rep
   refine ⟨(vs.drop (i*(kw+vw))).take (kw),by simp,fun u hu=>k3 u (List.mem_of_mem_drop (List.mem_of_mem_take hu)),D.reps_take (D.reps_drop k4 _) _⟩
  ·rw [V.rep_d]
   exact o_38 (D.reps_take (D.reps_drop k4 _) _) (fun u hu=>k3 u (List.mem_of_mem_drop (List.mem_of_mem_take hu))) (by rcases h5 with h | h;exact .inl h;right;simp;omega)
end
end
section
open Go.RowKit
section
variable {P:Program} {o:Oper} {T:List V} {H:List (Option Ob)}
theorem o_3s {t:TypeId} (h:strMap P t=true):∃k e ie,P.underlying t=some (.map k e)∧P.underlying k=some .string∧P.info? e=some ie∧ie.zero=some (.int .i64 0):=by
 unfold strMap at h
 split at h
 ·rename_i k e hu
  split at h
  ·rename_i ie h1 h2
   split at h
   ·rename_i n hz
    rw [beq_iff_eq] at h
    subst h
    exact ⟨k,e,ie,hu,h1,h2,hz⟩
   ·cases h
  ·cases h
 ·cases h
theorem objS (vs more:List Value):objOf 1000002 vs more = .map (entsS vs).toArray (vs.length/2):=by
 unfold objOf TG
 rw [if_neg (by omega),if_neg (by omega),if_neg (by omega),if_pos rfl]
theorem o_3t (a b:Value) (r:List Value):(entsS (a::b::r)).map (fun e=>(e.key,e.val))=(a,b)::(entsS r).map (fun e=>(e.key,e.val)):=by
 unfold entsS
 rw [show (a::b::r).length/2=r.length/2+1 by simp only [List.length_cons];omega,List.range_succ_eq_map]
 simp only [List.map_cons,List.map_map]
 congr 1
 refine List.map_congr_left fun i _=>?_
 simp only [Function.comp]
 rw [show (i+1)*2=i*2+1+1 by omega,show i*2+1+1+1=(i*2+1)+1+1 by omega]
 simp
theorem o_3u {d:TypeDesc} {k:Value}:∀(l r:List MapEntry) (i:Nat),l.map (fun e=>(e.key,e.val))=r.map (fun e=>(e.key,e.val))→Instr.findNow d k l i=Instr.findNow d k r i
 | [],[],i,h=>rfl
 | a::l,b::r,i,h=>by
  simp only [List.map_cons,List.cons.injEq,Prod.mk.injEq] at h
  unfold Instr.findNow
  rw [h.1.1,h.1.2,o_3u l r (i+1) h.2]
 | [],_::_,i,h=>by simp at h
 | _::_,[],i,h=>by simp at h
theorem o_3v {I:Nat→Prop} {w:World} {s:ByteArray}:∀(ds:List D) (vs:List Value) (r:Option Nat) (i:Nat),D.reps I w ds vs→sfind s ds=some r →
  Instr.findNow .string (.string s) (entsS vs) i=some (r.map fun j=>(i+j,vs.getD (j*2+1) undef))∧∀j,r=some j→j*2+1<ds.length∧∃n,ds.getD (j*2+1) default = .int .i64 n
 | [],vs,r,i,hd,h=>by
  cases h
  rw [D.reps_nil.1 hd]
  exact ⟨rfl,fun j hj=>by cases hj⟩
 | [x],vs,r,i,hd,h=>by
  exfalso
  cases x<;>simp [sfind] at h
 | x::y::ds,vs,r,i,hd,h=>by
  obtain ⟨v1,r1,rfl,h1,h2⟩:=D.reps_cons'.1 hd
  obtain ⟨v2,r2,rfl,h3,h4⟩:=D.reps_cons'.1 h2
  cases x with
  | str t =>
   cases y with
   | int kd m =>
    cases kd with
    | i64 =>
     simp only [sfind] at h
     have e1:=D.rep_str.1 h1
     have e2:=D.rep_int.1 h3
     subst e1;subst e2
     have hkv:∀i,Instr.findNow .string (.string s) (entsS (.string t::.int .i64 m::r2)) i=Instr.findNow .string (.string s) (⟨.string t,.int .i64 m,0⟩::entsS r2) i:=fun i=>o_3u _ _ i (by rw [o_3t];rfl)
     rw [hkv]
     unfold Instr.findNow
     split at h
     ·rename_i hst
      subst hst
      cases h
      refine ⟨by simp [Instr.sameNow,(MapKept.bytes_beq s s).2 rfl],fun j hj=>?_⟩
      cases hj
      exact ⟨by simp,m,rfl⟩
     ·rename_i hst
      simp only [Option.map_eq_some_iff] at h
      obtain ⟨r',h5,rfl⟩:=h
      obtain ⟨i1,i2⟩:=o_3v ds r2 r' (i+1) h4 h5
      have hne:(s==t)=false:=by
       cases hq:(s==t)
       ·rfl
       ·exact absurd ((MapKept.bytes_beq s t).1 hq) hst
      refine ⟨?_,fun j hj=>?_⟩
      ·simp only [Instr.sameNow,hne,i1]
       cases r' with
       | none=>rfl
       | some j =>
        simp only [Option.map_some]
        rw [show (j+1)*2+1=(j*2+1)+1+1 by omega]
        simp [Nat.add_assoc,Nat.add_comm 1 j]
      ·cases r' with
       | none=>cases hj
       | some q =>
        cases hj
        obtain ⟨a1,n,a2⟩:=i2 q rfl
        refine ⟨by simp;omega,n,?_⟩
        rw [show (q+1)*2+1=(q*2+1)+1+1 by omega]
        simpa using a2
    | _=>simp [sfind] at h
   | _=>simp [sfind] at h
  | _=>simp [sfind] at h
theorem o_3w (t:TypeId) (ho:o.op = .makeMap t none):StepOK P o [] T H (.mp H.length) (H++[some ⟨1000002,[]⟩]) [] [H.length]:=by
 refine StepOK.newO ⟨1000002,[]⟩ fun m a hb hs _=>⟨[],by simp,by simp,.map (some m.w.heap.size),?_,fun m' hρ _ _=>?_⟩
 ·rw [objS]
  simp [execOp,ho,run_makeMap,entsS]
 ·unfold V.rep;exact ⟨_,hρ,rfl⟩
theorem o_3x (t:TypeId) (x y:Operand) (n:Nat) (s:ByteArray) (ds:List D) (ob:Ob) (r:Option Nat) (ho:o.op = .lookup t x y true) (h:strMap P t=true) (hx:(X.of x).ev T = .mp n) (hy:(X.of y).ev T = .d (.str s)) (hn:H.getD n none=some ob)
  (hT:ob.T=1000002) (hd:ob.c=ds.map V.d) (hr:sfind s ds=some r):StepOK P o ((X.of x).slots++(X.of y).slots) T H (match r with | some i=>.tup [.d (sgetD ds i),.d (.bool true)] | none=>.tup [.d (.int .i64 0),.d (.bool false)]) H [n] []:=by
 obtain ⟨k,e,ie,hu,hku,hie,hz⟩:=o_3s h
 refine StepOK.val fun m a hb hs hob=>?_
 obtain ⟨b,vs,more,h1,h2,h3,h4,h5⟩:=hob n (by simp) ob hn
 rw [hT,objS] at h2
 rw [hd,V.reps_map_d] at h4
 have hvx:=X.rep' (o_9 hs) hx
 unfold V.rep at hvx
 obtain ⟨b',hb',hvx⟩:=hvx
 rw [h1] at hb';cases hb'
 have hvy:=X.rep' (o_a hs) hy
 rw [V.rep_d] at hvy
 have hvy:=D.rep_str.1 hvy
 obtain ⟨hf,hj⟩:=o_3v ds vs r 0 h4 hr
 have hchk:∀em,(Instr.checkKey em 10000 k (.string s)).run P m.w = .ok () m.w:=fun em=>by
  rw [show 10000=9999+1 from rfl,Instr.checkKey]
  simp [run_underlying hku]
 have hfind:(Instr.findKey k (.string s) (entsS vs)).run P m.w = .ok (r.map fun j=>(0+j,vs.getD (j*2+1) undef)) m.w:=by
  unfold Instr.findKey
  simp only [Sem.run_bind,run_underlying hku,Result.andThen_ok,hf,Sem.run_pure]
 have hzr:(zeroValue e).run P m.w = .ok (.int .i64 0) m.w:=by simp [zeroValue,typeInfo,hie,hz]
 cases r with
 | none =>
  refine ⟨.tuple #[.int .i64 0,.bool false],?_,by unfold V.rep;exact ⟨[_,_],rfl,V.reps_cons.2 ⟨V.rep_int.2 rfl,V.reps_cons.2 ⟨by rw [V.rep_d];exact D.rep_bool.2 rfl,V.reps_nil.2 rfl⟩⟩⟩⟩
  simp [execOp,ho,hvx,hvy,Instr.lookup,run_underlying hu,MapKept.run_getObj_map h2,hchk,hfind,hzr]
 | some j =>
  obtain ⟨j1,nn,j2⟩:=hj j rfl
  obtain ⟨v,hv1,hrep⟩:=D.reps_get h4 (j*2+1) (sgetD ds j) (by unfold sgetD;rw [List.getD_eq_getElem?_getD,List.getElem?_eq_getElem j1];rfl)
  have hv2:vs.getD (j*2+1) undef=v:=by rw [List.getD_eq_getElem?_getD,hv1];rfl
  simp only [Option.map_some,hv2] at hfind
  refine ⟨.tuple #[v,.bool true],?_,by unfold V.rep;exact ⟨[_,_],rfl,V.reps_cons.2 ⟨by rw [V.rep_d];exact hrep,V.reps_cons.2 ⟨by rw [V.rep_d];exact D.rep_bool.2 rfl,V.reps_nil.2 rfl⟩⟩⟩⟩
  simp [execOp,ho,hvx,hvy,Instr.lookup,run_underlying hu,MapKept.run_getObj_map h2,hchk,hfind]
theorem o_3y {vs:List Value} {s:ByteArray} {j:Int} (h:vs.length%2=0):(entsS vs).toArray.push { key:=.string s,val:=.int .i64 j,born:=vs.length/2 } = (entsS (vs++[Value.string s,Value.int .i64 j])).toArray∧vs.length/2+1=(vs++[Value.string s,Value.int .i64 j]).length/2:=by
 have e1:(vs++[Value.string s,.int .i64 j]).length/2=vs.length/2+1:=by simp
 refine ⟨?_,e1.symm⟩
 unfold entsS
 rw [e1,List.range_succ,List.map_append,List.push_toArray]
 congr 1
 congr 1
 ·refine List.map_congr_left fun i hi=>?_
  have hi:=List.mem_range.1 hi
  rw [List.getD_eq_getElem?_getD,List.getD_eq_getElem?_getD,List.getD_eq_getElem?_getD,List.getD_eq_getElem?_getD,List.getElem?_append_left (by omega),List.getElem?_append_left (by omega)]
 ·simp only [List.map_cons,List.map_nil]
  rw [List.getD_eq_getElem?_getD,List.getD_eq_getElem?_getD,List.getElem?_append_right (by omega),List.getElem?_append_right (by omega),show vs.length/2*2-vs.length=0 by omega,show vs.length/2*2+1-vs.length=1 by omega]
  rfl
theorem o_3z (t:TypeId) (x y z:Operand) (n:Nat) (s:ByteArray) (j:Int) (ds:List D) (ob:Ob) (ho:o.op = .mapUpdate t x y z∨o.op = .insert t x y z) (h:strMap P t=true) (hx:(X.of x).ev T = .mp n) (hy:(X.of y).ev T = .d (.str s)) (hz:(X.of z).ev T = .d (.int .i64 j)) (hn:H.getD n none=some ob)
  (hT:ob.T=1000002) (hd:ob.c=ds.map V.d) (hr:sfind s ds=some none) (hdl:ds.length%2=0):StepOK P o ((X.of x).slots++((X.of y).slots++(X.of z).slots)) T H .junk (H.set n (some ⟨1000002,(ds++[D.str s,D.int .i64 j]).map V.d⟩)) [] [n]:=by
 obtain ⟨k,e,ie,hu,hku,hie,hz0⟩:=o_3s h
 have hTG:TG≤1000002:=by unfold TG;omega
 refine StepOK.swap hn (by rw [hT];exact hTG) hTG fun m a hb hs b vs more h1 h2 h3 h4=>?_
 rw [hT,objS] at h2
 rw [hd,V.reps_map_d] at h4
 have hvx:=X.rep' (o_9 hs) hx
 unfold V.rep at hvx
 obtain ⟨b',hb',hvx⟩:=hvx
 rw [h1] at hb';cases hb'
 have hvy:=X.rep' (o_9 (o_a hs)) hy
 rw [V.rep_d] at hvy
 have hvy:=D.rep_str.1 hvy
 have hvz:=X.rep' (o_a (o_a hs)) hz
 have hvz:=V.rep_int.1 hvz
 have hlen:=D.reps_len h4
 obtain ⟨hf,-⟩:=o_3v ds vs none 0 h4 hr
 have hchk:∀em,(Instr.checkKey em 10000 k (.string s)).run P m.w = .ok () m.w:=fun em=>by
  rw [show 10000=9999+1 from rfl,Instr.checkKey]
  simp [run_underlying hku]
 have hfind:(Instr.findKey k (.string s) (entsS vs)).run P m.w = .ok none m.w:=by
  unfold Instr.findKey
  simp only [Sem.run_bind,run_underlying hku,Result.andThen_ok,hf,Sem.run_pure]
  rfl
 have hset:=fun O=>MapKept.run_setObj_map (P:=P) (w:=m.w) O h2
 obtain ⟨p1,p2⟩:=o_3y (s:=s) (j:=j) (vs:=vs) (by rw [hlen];exact hdl)
 refine ⟨vs++[.string s,.int .i64 j],?_,?_,?_⟩
 ·intro u hu'
  simp only [List.mem_append,List.mem_cons,List.not_mem_nil,or_false] at hu'
  rcases hu' with hu' | rfl | rfl
  ·exact h3 u hu'
  ·rfl
  ·rfl
 ·rw [V.reps_map_d]
  exact D.reps_append h4 (D.reps_cons.2 ⟨D.rep_str.2 rfl,D.reps_cons.2 ⟨D.rep_int.2 rfl,D.reps_nil.2 rfl⟩⟩)
 ·rw [objS,←p1,←p2]
  rcases ho with ho | ho <;>
   simp [execOp,ho,hvx,hvy,hvz,Instr.mapUpdate,run_underlying hu,MapKept.run_getObj_map h2,hchk,hfind,hset,putB]
theorem o_40 {v:Value} {x:V} (h:zv1 v=some x) (m:Mem):x.rep m v∧v.oneCell'=true:=by
 unfold zv1 at h
 split at h
 ·cases h
  exact ⟨by unfold V.rep;trivial,rfl⟩
 ·cases h
  exact ⟨by unfold V.rep;trivial,rfl⟩
 ·simp only [Option.map_eq_some_iff] at h
  obtain ⟨d,h1,rfl⟩:=h
  obtain ⟨h3,h4⟩:=D.of1_rep h1 m.I m.w
  exact ⟨V.rep_d.2 h3,h4⟩
theorem o_41 (m:Mem):∀{vs:List Value} {l:List V},zvs vs=some l→V.reps m l vs∧∀u∈vs,u.oneCell'=true
 | [],l,h=>by cases h;exact ⟨V.reps_nil.2 rfl,by simp⟩
 | v::r,l,h=>by
  unfold zvs at h
  split at h
  ·rename_i x l' hx hl
   cases h
   obtain ⟨h1,h2⟩:=o_41 m hl
   obtain ⟨h3,h4⟩:=o_40 hx m
   exact ⟨V.reps_cons.2 ⟨h3,h1⟩,by simpa [h4] using h2⟩
  ·cases h
theorem o_42 (t:TypeId) (ps:Array (Nat×Operand)) (fs:Array Field) (z:List V) (pl:List (Nat×Nat)) (l:List (Nat×Nat×X)) (c:List V) (ho:o.op = .build t ps) (hu:P.underlying t=some (.struct fs)) (hz:zeroVs P t=some z)
  (hf:fieldsOf P fs=some pl) (hp:partsOf pl ps.toList=some l) (hc:fillV z (l.map fun p=>(p.1,p.2.1,p.2.2.ev T))=some c):StepOK P o (l.flatMap fun p=>p.2.2.slots) T H (mkAgg c) H [] [] :=
 StepOK.val fun m a hb hs _=>by
  unfold zeroVs at hz
  cases hi:P.info? t with
  | none=>simp [hi] at hz
  | some i =>
   cases hzz:i.zero with
   | none=>simp [hi,hzz] at hz
   | some v =>
    simp [hi,hzz] at hz
    obtain ⟨h1,h2⟩:=o_41 m hz
    obtain ⟨cells',h3,h4,h5⟩:=o_t (m:=m) (a:=a) pl ps.toList l z c v.cells hp hs hc h1 h2
    have hbu:P.built t (ps.map fun (i,x)=>(i,a.eval x)).toList=some cells':=by
     unfold fieldsOf at hf
     simp only [Program.built,hi,hu,hzz,hf]
     simpa using h3
    refine ⟨.agg cells',?_,by have:=o_3 h4 h5;simpa using this⟩
    have:=run_build (P:=P) m.w t (ps.map fun (i,x)=>(i,a.eval x)) cells' hbu
    simp [execOp,ho,this]
end
end
section
open Go.RowKit
theorem o_43 {P:Program} {fits:TypeId→Bool}:∀{d:Nat} {e c c' off n:Nat},rowAt P fits d e c off n=true→c≤c'→rowAt P fits d e c' off n=true
 | 0,_,_,_,_,_,h,_=>by simp [rowAt] at h
 | d+1,e,c,c',off,n,h,hc=>by
  simp only [rowAt] at h ⊢
  split at h
  ·cases h
  ·rename_i h0
   rw [if_neg h0]
   simp only [Bool.or_eq_true,Bool.and_eq_true,decide_eq_true_eq] at h ⊢
   rcases h with ⟨⟨h1,h2⟩,h3⟩ | ⟨h1,h2⟩
   ·exact .inl ⟨⟨h1,by omega⟩,h3⟩
   ·exact .inr ⟨by omega,h2⟩
theorem o_44 {P:Program}:∀{d:Nat} {e c c' off u n:Nat},liesAt P d e c off u n=true→c≤c'→liesAt P d e c' off u n=true
 | 0,_,_,_,_,_,_,h,_=>by simp [liesAt] at h
 | d+1,e,c,c',off,u,n,h,hc=>by
  simp only [liesAt] at h ⊢
  rw [Bool.or_eq_true] at h ⊢
  rcases h with h | h
  ·exact .inl (o_43 h hc)
  ·right
   split at h
   ·rename_i hu;exact o_44 h hc
   ·cases h
theorem o_45 (w:World) (a:Addr) (n:Nat):(w.freeze a n).os=w.os∧(w.freeze a n).tape=w.tape∧(w.freeze a n).output=w.output∧(w.freeze a n).drawn=w.drawn∧(w.freeze a n).heap.size=w.heap.size:=by
 unfold World.freeze
 split
 ·exact ⟨rfl,rfl,rfl,rfl,rfl⟩
 ·exact ⟨rfl,rfl,rfl,rfl,by simp⟩
theorem o_46 (w:World) (a:Addr) (n j:Nat) (h:j≠a.block):(w.freeze a n).heap[j]?=w.heap[j]?:=by
 unfold World.freeze
 split
 ·rfl
 ·simp only [Array.getElem?_modify]
  rw [if_neg (by omega)]
theorem o_47 (w:World) (a:Addr) (n:Nat):(w.freeze a n).heap.size=w.heap.size:=(o_45 w a n).2.2.2.2
theorem o_48 (w:World) (a:Addr) (n j:Nat):(w.freeze a n).shape? j=w.shape? j:=by
 by_cases h:j=a.block
 ·subst h
  unfold World.freeze
  split
  ·rfl
  ·unfold World.shape?
   simp only [Array.getElem?_modify,if_true]
   cases hb:w.heap[a.block]? with
   | none=>rfl
   | some ob=>cases ob<;>rfl
 ·unfold World.shape?
  rw [o_46 _ _ _ _ h]
section
variable {P:Program} {o:Oper} {T:List V} {H:List (Option Ob)}
theorem o_49 {m:Mem} {n:Nat} {ob:Ob} (h:m.obj n ob) (hT:ob.T<TG):∃b cells,m.ρ n=some b∧m.w.shape? b=some (ob.T,cells)∧ob.c.length≤cells:=by
 obtain ⟨b,vs,more,h1,h2,h3,h4,h5⟩:=h
 rw [o_0 hT] at h2
 refine ⟨b,(vs++more).length,h1,?_,by rw [List.length_append,V.reps_len h4];omega⟩
 unfold World.shape?
 rw [h2]
 simp
theorem o_4a (src dst t:TypeId) (x:Operand) (j:TypeInfo) (n off:Nat) (ob:Ob) (ho:o.op = .convert src dst x) (hs:P.underlying src=some (.pointer t)) (hd:P.underlying dst=some .unsafePointer) (hj:P.info? t=some j) (hj0:¬j.size=0) (hx:(X.of x).ev T = .p n off) (hn:H.getD n none=some ob) (hT:ob.T<TG) (hoff:off<ob.c.length) :
  StepOK P o (X.of x).slots T H (.p n off) H [n] [] :=
 StepOK.val fun m a hb hsl hob=>by
  have hv:=X.rep' hsl hx
  have hv':=hv
  unfold V.rep at hv
  obtain ⟨b,h1,hv⟩:=hv
  obtain ⟨b',cells,h2,h3,h4⟩:=o_49 (hob n (by simp) ob hn) hT
  rw [h1] at h2;cases h2
  refine ⟨_,?_,hv'⟩
  have:=Lib.run_to_unsafe (P:=P) m.w ⟨b,off,none⟩ hs hd hj hj0 h3 (by show off<cells;omega)
  simp [execOp,ho,hv,this]
theorem o_4b (src dst u:TypeId) (x:Operand) (j:TypeInfo) (n off:Nat) (ob:Ob) (ho:o.op = .convert src dst x) (hs:P.underlying src=some .unsafePointer) (hd:P.underlying dst=some (.pointer u)) (hj:P.info? u=some j) (hx:(X.of x).ev T = .p n off) (hn:H.getD n none=some ob) (hT:ob.T<TG)
  (hl:liesAt P P.depth ob.T 1 off u 1=true) (hc0:0<P.cellsOf ob.T) (hc:P.cellsOf ob.T≤ob.c.length) :
  StepOK P o (X.of x).slots T H (.p n off) H [n] [] :=
 StepOK.val fun m a hb hsl hob=>by
  have hv:=X.rep' hsl hx
  have hv':=hv
  unfold V.rep at hv
  obtain ⟨b,h1,hv⟩:=hv
  obtain ⟨b',cells,h2,h3,h4⟩:=o_49 (hob n (by simp) ob hn) hT
  rw [h1] at h2;cases h2
  refine ⟨_,?_,hv'⟩
  have:=Lib.run_from_unsafe (P:=P) m.w ⟨b,off,none⟩ hs hd hj h3 (o_44 hl (by rw [Nat.le_div_iff_mul_le hc0];omega))
  simp [execOp,ho,hv,this]
theorem o_4c (fn:Fn) (first caps:Array Operand) (ho:o.op = .makeFunc fn first caps) (hf:caps.size=0):StepOK P o (X.slotss (first.toList.map X.of)) T H (.fb fn ((first.toList.map X.of).map (X.ev T))) H [] [] :=
 StepOK.val fun m a hb hs _=>by
  have he:caps = #[]:=Array.eq_empty_of_size_eq_zero hf
  subst he
  refine ⟨.func fn (first.map a.eval) #[],?_,?_⟩
  ·simp [execOp,ho,Instr.makeFunc]
  ·unfold V.rep
   exact ⟨first.toList.map a.eval,by rw [←Array.toList_map],o_11 _ hs⟩
theorem o_4d (w:World) {tp te:TypeId} {j:TypeInfo} (a:Addr) (hp:P.underlying tp=some (.pointer te)) (hte:P.info? te=some j) :
  (binOp .eql tp (.pointer (some a)) (.pointer (some a))).run P w = .ok (.bool true) w:=by
 have h:∀d:Nat,(Op.equalIn (d+1) tp (.pointer (some a)) (.pointer (some a))).run P w = .ok true w:=fun d=>by
  simp [Op.equalIn,run_underlying hp,sizeOf,typeInfo,hte,run_sameAddr_same]
 simp only [binOp]
 simp [Op.equal,Op.maxDepth,h 9999]
theorem o_4e (op:BinOp) (t t' e:TypeId) (x y:Operand) (j:TypeInfo) (n off:Nat) (hop:op = .eql∨op = .neq) (ho:o.op = .binOp op t x y t') (hu:P.underlying t=some (.pointer e)) (hj:P.info? e=some j) (hx:(X.of x).ev T = .p n off) (hy:(X.of y).ev T = .p n off) :
  StepOK P o ((X.of x).slots++(X.of y).slots) T H (.d (.bool (op==.neq).not)) H [] [] :=
 StepOK.val fun m a hb hs _=>by
  have hv:=X.rep' (o_9 hs) hx
  have hw:=X.rep' (o_a hs) hy
  unfold V.rep at hv hw
  obtain ⟨b,h1,hv⟩:=hv
  obtain ⟨b',h2,hw⟩:=hw
  rw [h1] at h2;cases h2
  rcases hop with rfl | rfl
  ·refine ⟨.bool true,?_,by rw [V.rep_d];unfold D.rep;rfl⟩
   have:=o_4d (P:=P) m.w ⟨b,off,none⟩ hu hj
   have hg:∀p q:Option Addr,∀op',(eqGuard op' t x y (.pointer p) (.pointer q)).run P m.w = .ok () m.w:=fun p q op'=>by unfold eqGuard;split<;>rfl
   simp [execOp,ho,hv,hw,this,hg]
  ·refine ⟨.bool false,?_,by rw [V.rep_d];unfold D.rep;rfl⟩
   have:=Lib.run_neq_ptr_same (P:=P) m.w ⟨b,off,none⟩ hu hj
   have hg:∀p q:Option Addr,∀op',(eqGuard op' t x y (.pointer p) (.pointer q)).run P m.w = .ok () m.w:=fun p q op'=>by unfold eqGuard;split<;>rfl
   simp [execOp,ho,hv,hw,this,hg]
theorem o_4f (b:ByteArray):(bytesV b).length=b.size:=by
 unfold bytesV
 rw [List.length_map,Array.length_toList]
 rfl
theorem o_4g {m:Mem} {v:Value} {b:ByteArray} {u:TypeId} (hu:P.underlying u=some .string) (hv:(V.d (.str b)).rep m v):∃news:List Value,Src P 1 u v b.size news m.w∧V.reps m (bytesV b) news:=by
 rw [V.rep_d] at hv
 unfold D.rep at hv
 subst hv
 refine ⟨_,Src.ofString m.w hu b,?_⟩
 unfold bytesV byteCells
 generalize b.data.toList=l
 induction l with
 | nil=>simp
 | cons x r ih=>exact V.reps_cons.2 ⟨by rw [V.rep_d];unfold D.rep;rfl,ih⟩
theorem o_4h (c:Call) (x:Operand) (xv:V) (r:V) (ho:o.op = .call c) (hc:c.callee = .builtin .unsafeSliceData) (ha:c.args.toList=[x]) (hx:(X.of x).ev T=xv)
  (hr:(xv = .d .nilsl∧r = .d .nilp)∨∃n s len,xv = .own n s len∧0<len∧r = .p n 0):StepOK P o (X.of x).slots T H r H [] [] :=
 StepOK.val fun m a hb hs _=>by
  have hv:=X.rep' hs hx
  have e2:c.args.map a.eval = #[a.eval x]:=by rw [←Array.toArray_toList (xs:=c.args),ha];simp
  rcases hr with ⟨rfl,rfl⟩ | ⟨n,s,len,rfl,hlen,rfl⟩
  ·rw [V.rep_d] at hv
   unfold D.rep at hv
   refine ⟨.pointer none,?_,by rw [V.rep_d];unfold D.rep;rfl⟩
   have:=Lib.run_unsafeSliceData_nil (P:=P) m.w c.argTypes o.type 0 0
   simp [execOp,ho,Go.resolve,hc,invoke,builtin,e2,hv,this]
  ·unfold V.rep at hv
   obtain ⟨b,t,k,cap,h1,h2,h3,hv,h4,h5⟩:=hv
   refine ⟨.pointer (some ⟨b,0,none⟩),?_,by unfold V.rep;exact ⟨b,h1,rfl⟩⟩
   have:=Lib.run_unsafeSliceData_row (P:=P) (w:=m.w) c.argTypes o.type ⟨b,0,none⟩ len cap (by omega)
   simp [execOp,ho,Go.resolve,hc,invoke,builtin,e2,hv,this]
theorem o_4i (c:Call) (x y:Operand) (t u:TypeId) (a:Act) (w:World) (r:Result Value) (ho:o.op = .call c) (hc:c.callee = .builtin .unsafeString) (ht:c.argTypes.toList=[t,u]) (ha:c.args.toList=[x,y])
  (hr:(Builtin.unsafeString_ #[t,u] o.type #[a.eval x,a.eval y]).run P w=r):(execOp a.eval o).run P w=r.andThen fun v w'=>.ok (.value v) w':=by
 have e1:c.argTypes = #[t,u]:=by rw [←Array.toArray_toList (xs:=c.argTypes),ht]
 have e2:c.args.map a.eval = #[a.eval x,a.eval y]:=by rw [←Array.toArray_toList (xs:=c.args),ha];simp
 subst hr
 simp [execOp,ho,Go.resolve,hc,invoke,builtin,e1,e2]
theorem o_4j (c:Call) (x y:Operand) (t u:TypeId) (xv:V) (ho:o.op = .call c) (hc:c.callee = .builtin .unsafeString) (ht:c.argTypes.toList=[t,u]) (ha:c.args.toList=[x,y]) (hx:(X.of x).ev T=xv) (hxv:xv = .d .nilp∨∃n q,xv = .p n q) (hy:(X.of y).ev T = .d (.int .i64 0)) :
  StepOK P o ((X.of x).slots++(X.of y).slots) T H (.d (.str .empty)) H [] [] :=
 StepOK.val fun m a hb hs _=>by
  have hv:=X.rep' (o_9 hs) hx
  have hw:=V.rep_int.1 (X.rep' (o_a hs) hy)
  have hp:∃p,a.eval x = .pointer p:=by
   rcases hxv with rfl | ⟨n,q,rfl⟩
   ·rw [V.rep_d] at hv;unfold D.rep at hv;exact ⟨_,hv⟩
   ·unfold V.rep at hv;obtain ⟨b,_,hv⟩:=hv;exact ⟨_,hv⟩
  obtain ⟨p,hp⟩:=hp
  refine ⟨.string .empty,?_,by rw [V.rep_d];unfold D.rep;rfl⟩
  have hr:=Lib.run_unsafeString_none (P:=P) m.w t u o.type p
  rw [←hp,←hw] at hr
  rw [o_4i c x y t u a m.w _ ho hc ht ha hr]
  rfl
theorem o_4k {m:Mem}:∀{l:List V} {ns:List Int} {vs:List Value},intsV l=some ns→V.reps m l vs→byteIs ns=true→∃bs:List UInt8,vs=bs.map (fun x=>Value.int .u8 (x.toNat:Int))∧(⟨bs.toArray⟩:ByteArray)=strOf ns
 | [],ns,vs,h,hr,_=>by
  cases h
  exact ⟨[],by simpa using hr,rfl⟩
 | .d (.int .u8 n)::l,ns,vs,h,hr,hb=>by
  simp only [intsV,Option.map_eq_some_iff] at h
  obtain ⟨r,h1,rfl⟩:=h
  obtain ⟨v,us,rfl,h2,h3⟩:=V.reps_cons'.1 hr
  simp only [byteIs,List.all_cons,Bool.and_eq_true,decide_eq_true_eq] at hb
  obtain ⟨bs,rfl,h4⟩:=o_4k h1 h3 hb.2
  have:=V.rep_int.1 h2
  refine ⟨UInt8.ofNat n.toNat::bs,?_,?_⟩
  ·rw [this,List.map_cons]
   congr 2
   have:(UInt8.ofNat n.toNat).toNat=n.toNat:=by simp [UInt8.toNat_ofNat'];omega
   rw [this];omega
  ·unfold strOf at h4 ⊢
   simp only [List.map_cons]
   have h5:=congrArg (fun b:ByteArray=>b.data.toList) h4
   simp at h5
   simp [h5]
 | .agg _::_,_,_,h,_,_ | .tup _::_,_,_,h,_,_ | .p ..::_,_,_,h,_,_ | .row ..::_,_,_,h,_,_ | .own ..::_,_,_,h,_,_ | .mp ..::_,_,_,h,_,_ | .ch ..::_,_,_,h,_,_ | .fn ..::_,_,_,h,_,_ | .fb ..::_,_,_,h,_,_ | .junk::_,_,_,h,_,_=>by simp [intsV] at h
 | .d (.bool _)::_,_,_,h,_,_ | .d (.str _)::_,_,_,h,_,_ | .d (.agg _)::_,_,_,h,_,_ | .d (.sl ..)::_,_,_,h,_,_ | .d (.slf ..)::_,_,_,h,_,_ | .d .nilsl::_,_,_,h,_,_ | .d .sl0::_,_,_,h,_,_ | .d .sle::_,_,_,h,_,_ | .d (.ifc ..)::_,_,_,h,_,_ | .d .nilifc::_,_,_,h,_,_ | .d .nilp::_,_,_,h,_,_ | .d .nilfn::_,_,_,h,_,_ | .d (.ptr ..)::_,_,_,h,_,_=>by simp [intsV] at h
 | .d (.int .i8 _)::_,_,_,h,_,_ | .d (.int .i16 _)::_,_,_,h,_,_ | .d (.int .i32 _)::_,_,_,h,_,_ | .d (.int .i64 _)::_,_,_,h,_,_ | .d (.int .u16 _)::_,_,_,h,_,_ | .d (.int .u32 _)::_,_,_,h,_,_ | .d (.int .u64 _)::_,_,_,h,_,_=>by simp [intsV] at h
theorem o_4l (c:Call) (x y:Operand) (t u e:TypeId) (n:Nat) (k:Int) (ob:Ob) (ns:List Int) (ho:o.op = .call c) (hc:c.callee = .builtin .unsafeString) (ht:c.argTypes.toList=[t,u]) (ha:c.args.toList=[x,y]) (hu:P.underlying t=some (.pointer e)) (hce:P.cellsOf e=1) (hTG:e<TG)
  (hx:(X.of x).ev T = .p n 0) (hy:(X.of y).ev T = .d (.int .i64 k)) (hk0:¬k=0) (hn:H.getD n none=some ob) (hns:intsV (ob.c.take k.toNat)=some ns) (hk:0≤k) (hkl:k≤ob.c.length) (hT:ob.T=e) (hbs:byteIs ns=true) (hkm:k≤9223372036854775807) :
  StepOK P o ((X.of x).slots++(X.of y).slots) T H (.d (.str (strOf ns))) (H.set n none) [] [n] where
 same:=fun j hj=>by
  simp at hj
  rw [o_n,if_neg (by omega)]
 len:=by simp
 lt:=fun j hj=>by
  simp at hj;subst hj
  rcases Nat.lt_or_ge j H.length with h | h
  ·simpa using h
  ·rw [List.getD_eq_getElem?_getD,List.getElem?_eq_none h] at hn;cases hn
 wlive:=fun j hj=>by simp at hj;subst hj;exact .inl (by rw [live,hn];rfl)
 run:=by
  intro m a hb hs hob _ _ K Q hK
  have hv:=X.rep' (o_9 hs) hx
  unfold V.rep at hv
  obtain ⟨b,hρ,hv⟩:=hv
  have hw:=V.rep_int.1 (X.rep' (o_a hs) hy)
  obtain ⟨b',vs,more,h1,h2,h3,h4,h5⟩:=hob n (.inr (by simp)) ob hn
  rw [o_0 (by rw [hT];exact hTG)] at h2
  rw [hρ] at h1;cases h1
  obtain ⟨bs,hvs,hstr⟩:=o_4k hns (V.reps_take h4 k.toNat) hbs
  have hlen:=V.reps_len h4
  have hbl:bs.length=k.toNat:=by
   have:=congrArg List.length hvs
   rw [List.length_take,List.length_map,hlen] at this
   omega
  have hkk:k=(bs.length:Int):=by omega
  have hsh:m.w.shape? b=some (e,(vs++more).length):=by
   unfold World.shape?
   rw [h2,hT]
   simp
  have hcell:∀j x,bs[j]?=some x→m.w.cell? ((⟨b,0,none⟩:Addr).add j)=some (.int .u8 x.toNat):=fun j x hj=>by
   rw [Addr.add_lit,Nat.zero_add]
   refine o_7 h2 ?_
   have h6:(vs.take k.toNat)[j]?=some (.int .u8 (x.toNat:Int)):=by rw [hvs,List.getElem?_map,hj];rfl
   rw [List.getElem?_take] at h6
   split at h6
   ·exact h6
   ·cases h6
  have hrun:=Lib.run_unsafeString_row (P:=P) m.w t u o.type e hu hce b (vs++more).length hsh bs (by intro h;rw [h] at hbl;simp at hbl;omega) (by simp;omega) (by omega) hcell
  have hblt:b<m.w.heap.size:=hb.dom n b hρ
  have hother:∀j,j≠b→(m.w.freeze ⟨b,0,none⟩ bs.length).heap[j]?=m.w.heap[j]?:=fun j hj=>o_46 _ _ _ _ hj
  have hle:m.le ⟨m.ρ,m.I,m.w.freeze ⟨b,0,none⟩ bs.length⟩ (·∈[n]):=by
   obtain ⟨f1,f2,f3,f4,f5⟩:=o_45 m.w ⟨b,0,none⟩ bs.length
   refine ⟨fun _ _ h=>h,fun _ h=>h,f1,f2,f3,trivial,by rw [o_47];exact Nat.le_refl _,fun j hj hne=>hother j fun e=>hne n (by simp) (by rw [e];exact hρ),fun j hj=>o_48 _ _ _ j,fun j hj=>hother j fun e=>h5 (e▸hj),fun _ h=>.inl h,fun _ _ h=>.inl h⟩
  unfold Oper.wp
  rw [←hv,←hkk,←hw] at hrun
  rw [o_4i c x y t u a m.w _ ho hc ht ha hrun]
  refine hK _ ⟨m.ρ,m.I,m.w.freeze ⟨b,0,none⟩ bs.length⟩ ⟨⟨fun j hj=>?_,fun j c hj=>?_,hb.tabs.le hle⟩,hle,?_,fun j hj ob' h'=>?_,fun _ _=>rfl,fun j hj hl=>?_,fun j hj j' hj' _ _ _=>by simp at hj hj';omega⟩
  ·rw [o_47];exact hb.imm j hj
  ·rw [o_47];exact hb.dom j c hj
  ·rw [V.rep_d];unfold D.rep;rw [hstr]
  ·simp at hj;subst hj
   rw [o_n] at h'
   split at h'
   ·cases h'
   ·rename_i hq
    exfalso
    rcases Nat.lt_or_ge j H.length with h | h
    ·exact hq ⟨rfl,h⟩
    ·rw [List.getD_eq_getElem?_getD,List.getElem?_eq_none h] at hn;cases hn
  ·simp at hj;subst hj
   rw [live,o_n] at hl
   split at hl
   ·cases hl
   ·rename_i hq
    exfalso
    rcases Nat.lt_or_ge j H.length with h | h
    ·exact hq ⟨rfl,h⟩
    ·rw [List.getD_eq_getElem?_getD,List.getElem?_eq_none h] at hn;cases hn
end
end
section
open Go.RowKit
section
variable {P:Program} {o:Oper} {T:List V} {H:List (Option Ob)}

theorem StepOK.swapV {S:List Nat} {n:Nat} {ob ob':Ob} {x:V} (hn:H.getD n none=some ob) (h0:TG≤ob.T) (h1:TG≤ob'.T)
  (h:∀(m:Mem) (a:Act),m.base→Slots m a T S→∀(b:Nat) (vs more:List Value),m.ρ n=some b→m.w.heap[b]?=some (objOf ob.T vs more)→(∀u∈vs,u.oneCell'=true)→V.reps m ob.c vs →
   ∃(vs':List Value) (v:Value),(∀u∈vs',u.oneCell'=true)∧V.reps m ob'.c vs'∧x.rep m v∧(execOp a.eval o).run P m.w = .ok (.value v) (putB m.w b (objOf ob'.T vs' []))) :
  StepOK P o S T H x (H.set n (some ob')) [] [n] where
 same:=fun k hk=>by
  simp at hk
  rw [o_n,if_neg (by omega)]
 len:=by simp
 lt:=fun k hk=>by
  simp at hk;subst hk
  rcases Nat.lt_or_ge k H.length with h | h
  ·simpa using h
  ·rw [List.getD_eq_getElem?_getD,List.getElem?_eq_none h] at hn;cases hn
 wlive:=fun k hk=>by simp at hk;subst hk;exact .inl (by rw [live,hn];rfl)
 run:=by
  intro m a hb hs hob _ _ K Q hK
  obtain ⟨b,vs,more,k1,k2,k3,k4,k5⟩:=hob n (.inr (by simp)) ob hn
  obtain ⟨vs',v,j1,j2,jx,j3⟩:=h m a hb hs b vs more k1 k2 k3 k4
  have hle:=o_3j (vs':=vs') hb h0 h1 k1 k2 k5
  have hlt:=hb.dom n b k1
  have hH:(H.set n (some ob')).getD n none=some ob':=by
   have hlt:n<H.length:=by
    rcases Nat.lt_or_ge n H.length with h | h
    ·exact h
    ·rw [List.getD_eq_getElem?_getD,List.getElem?_eq_none h] at hn;cases hn
   rw [o_n,if_pos ⟨rfl,hlt⟩]
  unfold Oper.wp
  rw [j3]
  refine hK v ⟨m.ρ,m.I,putB m.w b (objOf ob'.T vs' [])⟩ ⟨⟨fun k hk=>by simp only [o_3h];exact hb.imm k hk,fun k b' hk=>by simp only [o_3h];exact hb.dom k b' hk,hb.tabs.le hle⟩,hle,V.rep_mono hle _ _ jx,fun k hk ob1 h'=>?_,fun _ _=>rfl,fun k hk _=>?_,fun k hk k' hk' _ _ _=>by simp at hk hk';omega⟩
  ·simp at hk;subst hk
   rw [hH] at h';cases h'
   exact ⟨b,vs',[],k1,o_3g hlt,j1,V.reps_mono hle _ _ j2,k5⟩
  ·simp at hk;subst hk
   exact ⟨b,k1,.inr ⟨k,by simp,by rw [live,hn];rfl,k1⟩⟩

theorem o_4m {m:Mem} {g:Bool} {l:List D} {vs:List Value} {j:Nat} (h:D.reps m.I m.w l vs) (h1:∀u∈vs,u.oneCell'=true) (hg:g=true∨l.length=1):V.rep m (.tup [.d (glD g l),.d (.int .i64 j)]) (.tuple #[glue g vs,goInt j]):=by
 unfold V.rep
 exact ⟨[glue g vs,goInt j],rfl,V.reps_cons.2 ⟨V.rep_d.2 (o_38 h h1 hg),V.reps_cons.2 ⟨V.rep_int.2 rfl,V.reps_nil.2 rfl⟩⟩⟩

theorem o_4n (t:TypeId) (x y:Operand) {T0:Nat} {ks:List Nat} {vw:Nat} {g:Bool} {zd:List D} (n:Nat) (kl ds ds':List D) (ob:Ob) (r:D) (j:Nat) (ho:o.op = .mapEntry t x y) (h:mtag P t=some (T0,ks,vw,g,zd)) (hx:(X.of x).ev T = .mp n) (hy:(X.of y).ev T = .d (.agg kl)) (hn:H.getD n none=some ob)
  (hT:ob.T=T0) (hkn:kl.length=ks.length) (hd:ob.c=ds.map V.d) (hdl:ds.length%(ks.length+vw)=0) (hr:mentD ks vw g zd kl ds=some (r,j,ds')) :
  StepOK P o ((X.of x).slots++(X.of y).slots) T H (.tup [.d r,.d (.int .i64 j)]) (H.set n (some ⟨T0,ds'.map .d⟩)) [] [n]:=by
 obtain ⟨k,e,fs,ie,zz,hu,hku,hks,hag,hie,hz0,hzd,hzl,hst,hza,hk0,hv0,hv,hg,hT0⟩:=o_36 h
 have hTG:TG≤T0:=by rw [hT0];unfold TG;omega
 refine StepOK.swapV hn (by rw [hT];exact hTG) hTG fun m a hb hs b vs more h1 h2 h3 h4=>?_
 rw [hT,hT0,o_2w hk0 hv] at h2
 rw [hd,V.reps_map_d] at h4
 have hvx:=X.rep' (o_9 hs) hx
 unfold V.rep at hvx
 obtain ⟨b',hb',hvx⟩:=hvx
 rw [h1] at hb';cases hb'
 have hvy:=X.rep' (o_a hs) hy
 rw [V.rep_d] at hvy
 unfold D.rep at hvy
 obtain ⟨us,hvy,hu1,hkl⟩:=hvy
 have hlen:=D.reps_len h4
 have hul:=D.reps_len hkl
 unfold mentD at hr
 simp only [Option.map_eq_some_iff] at hr
 obtain ⟨f,hf,hr⟩:=hr
 have hfind:=o_33 (P:=P) (m:=m) hku hst hks hkl (entsOf ks.length vw g vs) ds vs f h4 (fun j e he=>by rw [(o_34 he).2]) (by rw [o_35,hlen];exact hf)
 have hchk:(Instr.checkKey false 10000 k (.agg us.toArray)).run P m.w = .ok () m.w:=o_2z hku hks (by rw [hul,hkn])
 have hset:=fun O=>MapKept.run_setObj_map (P:=P) (w:=m.w) O h2
 have hzr:(zeroValue e).run P m.w = .ok zz m.w:=by simp [zeroValue,typeInfo,hie,hz0]
 cases f with
 | none =>
  simp only [Prod.mk.injEq] at hr
  obtain ⟨hr1,hr2,hr3⟩:=hr
  obtain ⟨z1,z2⟩:=D.ofs_rep m.I m.w hzd
  have hzlen:=D.reps_len z1
  have hgz:glue g zz.cells.toList=zz:=by
   subst hza
   unfold glue zeroAgg
   cases zz<;>simp [Value.cells]
  obtain ⟨p1,p2⟩:=o_3l (kw:=ks.length) (vw:=vw) (g:=g) (vs:=vs) (us:=us) (cs:=zz.cells.toList) (by omega) (by rw [hlen];exact hdl) (by omega) (by omega)
  rw [hgz] at p1
  have hdv:ds.length/(ks.length+vw)=vs.length/(ks.length+vw):=by rw [hlen]
  refine ⟨vs++(us++zz.cells.toList),.tuple #[zz,goInt (vs.length/(ks.length+vw):Nat)],?_,?_,?_,?_⟩
  ·intro u hu'
   simp only [List.mem_append] at hu'
   rcases hu' with hu' | hu' | hu'
   ·exact h3 u hu'
   ·exact hu1 u hu'
   ·exact z2 u hu'
  ·rw [←hr3,V.reps_map_d]
   exact D.reps_append h4 (D.reps_append hkl z1)
  ·have:=o_4m (m:=m) (g:=g) (j:=vs.length/(ks.length+vw)) z1 z2 (by rw [hzl];exact hg)
   rw [hgz] at this
   rw [←hr1,←hr2,hdv]
   exact this
  ·rw [hT0,o_2w hk0 hv,←p1,p2]
   simp [execOp,ho,hvx,hvy,Instr.mapEntry,run_underlying hu,MapKept.run_getObj_map h2,hchk,hfind,hset,putB,hzr]
 | some i =>
  simp only [Prod.mk.injEq] at hr
  obtain ⟨hr1,hr2,hr3⟩:=hr
  subst hr2
  obtain ⟨hj,hje⟩:=o_30 _ _ _ hf
  have hN:i+1≤vs.length/(ks.length+vw):=by rw [hlen];exact hj
  have hle:(i+1)*(ks.length+vw)≤vs.length:=Nat.le_trans (Nat.mul_le_mul_right _ hN) (Nat.div_mul_le_self _ _)
  rw [Nat.add_mul,Nat.one_mul] at hle
  obtain ⟨cs,hcs⟩:∃cs,cs=(vs.drop (i*(ks.length+vw)+ks.length)).take vw:=⟨_,rfl⟩
  have hcl:cs.length=vw:=by rw [hcs,List.length_take,List.length_drop];omega
  have hcr:=D.reps_take (D.reps_drop h4 (i*(ks.length+vw)+ks.length)) vw
  rw [←hcs] at hcr
  have hc1:∀u∈cs,u.oneCell'=true:=fun u hu'=>by rw [hcs] at hu';exact h3 u (List.mem_of_mem_drop (List.mem_of_mem_take hu'))
  obtain ⟨p1,p2⟩:=o_3k (g:=g) (vs:=vs) (us:=us) (cs:=cs) (kw:=ks.length) (vw:=vw) (i:=i) (by omega) (by rw [hlen];exact hj) (by omega) hcl
  have hjj:(entsOf ks.length vw g vs)[i]?=some ⟨.agg ((vs.drop (i*(ks.length+vw))).take ks.length).toArray,glue g cs,i⟩:=by
   have:i<(entsOf ks.length vw g vs).length:=by rw [o_35,hlen];exact hj
   obtain ⟨-,he⟩:=o_34 (List.getElem?_eq_getElem this)
   rw [List.getElem?_eq_getElem this,he,hcs]
  have hst2:=o_3c (P:=P) (m:=m) hje hkl (D.reps_take (D.reps_drop h4 (i*(ks.length+vw))) ks.length)
  have hmod:((entsOf ks.length vw g vs).toArray.modify i fun e=>{ e with key:=.agg us.toArray })=((entsOf ks.length vw g vs).toArray.modify i fun e=>{ e with key:=.agg us.toArray,val:=glue g cs }):=by
   apply Array.ext'
   apply List.ext_getElem?
   intro q
   simp only [Array.toList_modify,List.getElem?_modify]
   by_cases e:i=q
   ·subst e
    rw [hjj]
    simp
   ·simp [e]
  refine ⟨vs.take (i*(ks.length+vw))++(us++cs)++vs.drop ((i+1)*(ks.length+vw)),.tuple #[glue g cs,goInt i],?_,?_,?_,?_⟩
  ·intro u hu'
   simp only [List.mem_append] at hu'
   rcases hu' with (hu' | hu' | hu') | hu'
   ·exact h3 u (List.mem_of_mem_take hu')
   ·exact hu1 u hu'
   ·exact hc1 u hu'
   ·exact h3 u (List.mem_of_mem_drop hu')
  ·rw [←hr3,V.reps_map_d]
   exact D.reps_append (D.reps_append (D.reps_take h4 _) (D.reps_append hkl hcr)) (D.reps_drop h4 _)
  ·rw [←hr1]
   exact o_4m hcr hc1 (by rw [←D.reps_len hcr,hcl];exact hg)
  ·rw [hT0,o_2w hk0 hv,←p1,p2,←hmod]
   simp [execOp,ho,hvx,hvy,Instr.mapEntry,run_underlying hu,MapKept.run_getObj_map h2,hchk,hfind,hjj,hst2,hset,putB]

theorem o_4o (e:TypeId) {i:TypeInfo} (hT:e<TG) (ho:o.op = .alloc e) (hi:P.info? e=some i) (hz:i.zero=some (.map none)):StepOK P o [] T H (.p H.length 0) (H++[some ⟨e,[.junk]⟩]) [] [H.length] :=
 StepOK.new ⟨e,[.junk]⟩ hT fun m a hb hs _=>by
  have hv:(zeroValue e).run P m.w = .ok (.map none) m.w:=by simp [zeroValue,typeInfo,hi,hz]
  refine ⟨[.map none],by simp [Value.oneCell'],V.reps_cons.2 ⟨by unfold V.rep;trivial,V.reps_nil.2 rfl⟩,.pointer (some ⟨m.w.heap.size,0,none⟩),?_,fun m' hρ _=>?_⟩
  ·simp [execOp,ho,Instr.alloc,hv,newVar,newRow,Value.cells]
  ·unfold V.rep;exact ⟨_,hρ,rfl⟩

theorem o_4p {kw vw:Nat} {g:Bool} {vs:List Value} {j:Nat} (hj:j<vs.length/(kw+vw)):(entsOf kw vw g vs).toArray.findIdx? (fun e=>(e.born:Int)==(j:Int))=some j:=by
 rw [List.findIdx?_toArray,List.findIdx?_eq_some_iff_getElem]
 refine ⟨by rw [o_35];exact hj,?_,fun k hk=>?_⟩
 ·have:j<(entsOf kw vw g vs).length:=by rw [o_35];exact hj
  obtain ⟨-,he⟩:=o_34 (List.getElem?_eq_getElem this)
  rw [he];simp
 ·have:k<(entsOf kw vw g vs).length:=by rw [o_35];omega
  obtain ⟨-,he⟩:=o_34 (List.getElem?_eq_getElem this)
  rw [he]
  simp
  omega
theorem o_4q (t:TypeId) (x y z:Operand) {T0:Nat} {ks:List Nat} {vw:Nat} {g:Bool} {zd:List D} (n:Nat) (j:Nat) (ds:List D) (ob:Ob) (r:D) (ho:o.op = .entryStore t x y z) (h:mtag P t=some (T0,ks,vw,g,zd)) (hx:(X.of x).ev T = .mp n) (hy:(X.of y).ev T = .d (.int .i64 j)) (hz:(X.of z).ev T = .d r) (hn:H.getD n none=some ob)
  (hT:ob.T=T0) (hrg:r.isAgg=g) (hd:ob.c=ds.map V.d) (hrl:r.cells.length=vw) (hj:j<ds.length/(ks.length+vw)) :
  StepOK P o ((X.of x).slots++((X.of y).slots++(X.of z).slots)) T H .junk (H.set n (some ⟨T0,(estoD ks.length vw j r.cells ds).map .d⟩)) [] [n]:=by
 obtain ⟨k,e,fs,ie,zz,hu,hku,hks,hag,hie,hz0,hzd,hzl,hst,hza,hk0,hv0,hv,hg,hT0⟩:=o_36 h
 have hTG:TG≤T0:=by rw [hT0];unfold TG;omega
 refine StepOK.swap hn (by rw [hT];exact hTG) hTG fun m a hb hs b vs more h1 h2 h3 h4=>?_
 rw [hT,hT0,o_2w hk0 hv] at h2
 rw [hd,V.reps_map_d] at h4
 have hvx:=X.rep' (o_9 hs) hx
 unfold V.rep at hvx
 obtain ⟨b',hb',hvx⟩:=hvx
 rw [h1] at hb';cases hb'
 have hvy:=X.rep' (o_9 (o_a hs)) hy
 rw [V.rep_int] at hvy
 have hvz:=X.rep' (o_a (o_a hs)) hz
 have hcz:=V.cells_rep (m:=m) (x:=.d r) (l:=r.cells.map .d) rfl hvz
 rw [V.reps_map_d] at hcz
 rw [V.rep_d] at hvz
 have hgl:=o_3d (m:=m) hvz hrg
 have hlen:=D.reps_len h4
 have hcl:=D.reps_len hcz.1
 have hset:=fun O=>MapKept.run_setObj_map (P:=P) (w:=m.w) O h2
 generalize hcs:(a.eval z).cells.toList=cs at *
 have hj2:j<vs.length/(ks.length+vw):=by rw [hlen];exact hj
 have hfb:=o_4p (g:=g) hj2
 have hle:(j+1)*(ks.length+vw)≤vs.length:=Nat.le_trans (Nat.mul_le_mul_right _ hj2) (Nat.div_mul_le_self _ _)
 rw [Nat.add_mul,Nat.one_mul] at hle
 obtain ⟨us,hus⟩:∃us,us=(vs.drop (j*(ks.length+vw))).take ks.length:=⟨_,rfl⟩
 have hul:us.length=ks.length:=by rw [hus,List.length_take,List.length_drop];omega
 obtain ⟨p1,p2⟩:=o_3k (g:=g) (vs:=vs) (us:=us) (cs:=cs) (kw:=ks.length) (vw:=vw) (i:=j) (by omega) hj2 hul (by omega)
 have hjj:(entsOf ks.length vw g vs)[j]?=some ⟨.agg us.toArray,glue g ((vs.drop (j*(ks.length+vw)+ks.length)).take vw),j⟩:=by
  have:j<(entsOf ks.length vw g vs).length:=by rw [o_35];exact hj2
  obtain ⟨-,he⟩:=o_34 (List.getElem?_eq_getElem this)
  rw [List.getElem?_eq_getElem this,he,hus]
 have hmod:((entsOf ks.length vw g vs).toArray.modify j fun e=>{ e with val:=glue g cs })=((entsOf ks.length vw g vs).toArray.modify j fun e=>{ e with key:=.agg us.toArray,val:=glue g cs }):=by
  apply Array.ext'
  apply List.ext_getElem?
  intro q
  simp only [Array.toList_modify,List.getElem?_modify]
  by_cases e:j=q
  ·subst e
   rw [hjj]
   simp
  ·simp [e]
 refine ⟨vs.take (j*(ks.length+vw))++(us++cs)++vs.drop ((j+1)*(ks.length+vw)),?_,?_,?_⟩
 ·intro u hu'
  simp only [List.mem_append] at hu'
  rcases hu' with (hu' | hu' | hu') | hu'
  ·exact h3 u (List.mem_of_mem_take hu')
  ·rw [hus] at hu';exact h3 u (List.mem_of_mem_drop (List.mem_of_mem_take hu'))
  ·exact hcz.2 u hu'
  ·exact h3 u (List.mem_of_mem_drop hu')
 ·unfold estoD
  rw [V.reps_map_d,hus]
  exact D.reps_append (D.reps_append (D.reps_take h4 _) (D.reps_append (D.reps_take (D.reps_drop h4 _) _) hcz.1)) (D.reps_drop h4 _)
 ·rw [hT0,o_2w hk0 hv,←p1,p2,←hmod,hgl]
  simp [execOp,ho,hvx,hvy,Instr.entryStore,MapKept.run_getObj_map h2,hfb,hset,putB,asInt,asIntOf]
end
end
section
open Go.RowKit
section
variable {P:Program} {o:Oper} {T:List V} {H:List (Option Ob)}
theorem o_4r (w:World) (t tx ty e:TypeId) (i:TypeInfo) (z:Value) (ht:P.underlying t=some (.slice e)) (htx:P.underlying tx=some (.int .i64)) (hi:P.info? e=some i) (hz:i.zero=some z) (n:Nat) (hn:0<n) (hs:0<i.size) (hb:0<i.bytes) (hby:n*i.bytes≤140737488355328) :
  (Builtin.append_ #[t,tx] ty #[.slice none 0 0,.int .i64 n]).run P w =
   .ok (.slice (some ⟨w.heap.size,0,none⟩) n (grownCap w n 0 e)) (w.drew.alloc (.cells (Builtin.zeroCells z.cells n++Builtin.zeroCells z.cells (grownCap w n 0 e-n)) e)):=by
 have hnb:n≤140737488355328:=Nat.le_trans (Nat.le_mul_of_pos_right _ hb) hby
 have e1:IntKind.i64.wrap (n:Int)=n:=by rw [IntKind.wrap_i64];omega
 have e2:¬((n:Int)<0):=by omega
 have e3:¬(281474976710656<(n:Int)*(i.bytes:Int)):=by
  have:((n*i.bytes:Nat):Int)≤140737488355328:=by omega
  rw [Int.natCast_mul] at this;omega
 have hn0:¬(n≤0):=by omega
 have hfit:=growslice_fits (need:=n) (old:=0) (bytes:=i.bytes) (by omega) hby
 have h48':¬(281474976710656<Builtin.nextslicecap n 0*i.bytes):=by omega
 have h63':¬(9223372036854775807<(n:Int)):=by omega
 have hne:¬(n*i.size=0):=by have:=Nat.mul_pos hn hs;omega
 have hne2:¬(n=0∨i.size=0):=by omega
 have hn2:¬n=0:=by omega
 have hs2:¬i.size=0:=by omega
 simp [Builtin.append_,run_underlying ht,run_underlying htx,sizeOf,typeInfo,zeroValue,hi,hz,hn0,h63',h48',Question.forced,newRow,grownCap,asInt,asIntOf,e1,e2,e3,hne,hne2,hn2,hs2,Builtin.firstCells]
theorem o_4s (c:Call) (x y:Operand) (t u e:TypeId) (i:TypeInfo) (z:Value) (zl:List D) (k:Nat) (ho:o.op = .call c) (hc:c.callee = .builtin .append) (ht:c.argTypes.toList=[t,u]) (ha:c.args.toList=[x,y]) (hu1:P.underlying t=some (.slice e)) (hu2:P.underlying u=some (.int .i64)) (hi:P.info? e=some i) (hz:i.zero=some z) (hd:D.ofs z.cells.toList=some zl) (hzl:zl.length=i.size) (hzs:z.cells.size=i.size)
  (hx:(X.of x).ev T = .d .nilsl) (hy:(X.of y).ev T = .d (.int .i64 k)) (hk:0<k) (hs0:0<i.size) (hb0:0<i.bytes) (hby:k*i.bytes≤140737488355328) (hTG:e<TG) :
  StepOK P o ((X.of x).slots++(X.of y).slots) T H (.own H.length i.size k) (H++[some ⟨e,repl k zl⟩]) [] [H.length] where
 same:=fun n hn=>by
  simp at hn
  rw [List.getD_eq_getElem?_getD,List.getD_eq_getElem?_getD]
  rcases Nat.lt_or_gt_of_ne hn with h | h
  ·rw [List.getElem?_append_left h]
  ·rw [List.getElem?_eq_none (by simp;omega),List.getElem?_eq_none (by omega)]
 len:=by simp
 lt:=by simp
 wlive:=by simp
 run:=by
  intro m a hb hs hob hf _ K Q hK
  have hv:=X.rep' (o_9 hs) hx
  have hp:a.eval x = .slice none 0 0:=by
   rw [V.rep_d] at hv
   unfold D.rep at hv;exact hv
  have hp2:a.eval y = .int .i64 k:=V.rep_int.1 (X.rep' (o_a hs) hy)
  have hkm:k≤140737488355328:=Nat.le_trans (Nat.le_mul_of_pos_right _ hb0) hby
  have hrun:=o_4r (P:=P) m.w t u o.type e i z hu1 hu2 hi hz k hk hs0 hb0 hby
  have hge:=grownCap_ge m.w k 0 e
  have hcm:grownCap m.w k 0 e≤maxLen:=grownCap_le_maxLen m.w k 0 e (by unfold maxLen;omega)
  generalize grownCap m.w k 0 e=cap at hrun hge hcm
  obtain ⟨h1,h2⟩:=o_13 (m:=m) rfl rfl hd k
  have hzm:madeCells z.cells (k*zl.length)=Builtin.zeroCells z.cells k:=by
   unfold madeCells Builtin.zeroCells
   rw [hzl,hzs]
  rw [hzm] at h1 h2
  obtain ⟨m',hw,hb',hle,ho',hkeep,hρ⟩:=Mem.newP hb H.length (hf _ (by simp) (Nat.le_refl _)) ⟨e,repl k zl⟩ (Builtin.zeroCells z.cells k).toList (Builtin.zeroCells z.cells (cap-k)).toList h2 h1 hTG m.w.drew rfl rfl rfl rfl
  have hcells:(Builtin.zeroCells z.cells k++Builtin.zeroCells z.cells (cap-k))=((Builtin.zeroCells z.cells k).toList++(Builtin.zeroCells z.cells (cap-k)).toList).toArray:=by apply Array.ext';simp
  rw [hcells] at hrun
  unfold Oper.wp
  rw [o_22 c x y t u a m.w _ ho hc ht ha rfl,hp,hp2,hrun,←hw]
  refine hK _ m' ⟨hb',hle,?_,fun n hn ob' h'=>?_,hkeep,fun n hn _=>?_,fun n hn k hk _ _ _=>?_⟩
  ·unfold V.rep
   refine ⟨_,e,_,cap,hρ,?_,rfl,rfl,hge,hcm⟩
   rw [hw]
   unfold World.shape?
   rw [show m.w.heap.size=m.w.drew.heap.size from rfl,heap_alloc_new]
   have:((Builtin.zeroCells z.cells k).toList++(Builtin.zeroCells z.cells (cap-k)).toList).toArray.size=cap*i.size:=by
    simp [size_zeroCells,hzs]
    rw [←Nat.add_mul]
    congr 1;omega
   simp only [this]
  ·simp at hn;subst hn
   rw [List.getD_eq_getElem?_getD,List.getElem?_append_right (Nat.le_refl _),Nat.sub_self] at h'
   cases h';exact ho'
  ·simp at hn;subst hn;exact ⟨_,hρ,.inl (Nat.le_refl _)⟩
  ·simp at hn hk;omega
theorem o_4t (c:Call) (x:Operand) (t e:TypeId) (ho:o.op = .call c) (hc:c.callee = .builtin .cap) (ht:c.argTypes[0]?=some t) (hd:P.underlying t=some (.slice e)) (hx:c.args[0]?=some x)
  (hn:(X.of x).ev T = .d .nilsl):StepOK P o (X.of x).slots T H (.d (.int .i64 0)) H [] [] :=
 StepOK.data fun m a hs=>by
  refine ⟨.int .i64 0,?_,D.rep_int.2 rfl⟩
  have hv:=X.rep' hs hn
  rw [V.rep_d] at hv
  unfold D.rep at hv
  have hargs:(c.args.map a.eval)[0]?=some (a.eval x):=by simp [hx]
  have hl:(Builtin.cap_ c.argTypes o.type (c.args.map a.eval)).run P m.w = .ok (.int .i64 0) m.w:=by
   simp [Builtin.cap_,ht,hargs,run_underlying hd,hv,goInt]
  simp [execOp,ho,resolve,Go.resolve,hc,invoke,builtin,hl]
theorem o_4u (t e:TypeId) (x hi:Operand) (i:TypeInfo) (n q b:Nat) (kd:IntKind) (ob:Ob) (ho:o.op = .slice t x none (some hi) none) (hu:P.underlying t=some (.slice e)) (hi':P.info? e=some i) (hx:(X.of x).ev T = .own n i.size q) (hb:(X.of hi).ev T = .d (.int kd b)) (hbq:b≤q) (hn:H.getD n none=some ob) (hT:ob.T<TG) :
  StepOK P o ((X.of x).slots++(X.of hi).slots) T H (.own n i.size b) (H.set n (some ⟨ob.T,ob.c.take (b*i.size)⟩)) [] [n] where
 same:=fun k hk=>by
  simp at hk
  rw [o_n,if_neg (by omega)]
 len:=by simp
 lt:=fun k hk=>by
  simp at hk;subst hk
  rcases Nat.lt_or_ge k H.length with h | h
  ·simpa using h
  ·rw [List.getD_eq_getElem?_getD,List.getElem?_eq_none h] at hn;cases hn
 wlive:=fun k hk=>by simp at hk;subst hk;exact .inl (by rw [live,hn];rfl)
 run:=by
  intro m a hbs hs hob _ _ K Q hK
  obtain ⟨bl,vs,more,h1,h2,h3,h4,h5⟩:=hob n (.inr (by simp)) ob hn
  rw [o_0 hT] at h2
  have hv:=X.rep' (o_9 hs) hx
  unfold V.rep at hv
  obtain ⟨bl',t',zz,cap,hρ,hsh,hzz,hv,hqc,hcm⟩:=hv
  rw [h1] at hρ;cases hρ
  have hv2:=V.rep_int.1 (X.rep' (o_a hs) hb)
  have hlen:=V.reps_len h4
  have hbr:=o_1g (P:=P) (w:=m.w) none (some (a.eval hi)) none q cap 0 b cap (.inl ⟨rfl,rfl⟩) (.inr ⟨kd,by rw [hv2]⟩) (.inl ⟨rfl,rfl⟩) (Nat.zero_le _) (by omega) (Nat.le_refl _)
  have hrun:=o_1h (P:=P) (w:=m.w) hu hi' (some ⟨bl,0,none⟩) none (some (a.eval hi)) none q cap 0 b cap hbr
  have hval:(if cap=0 then some (⟨bl,0,none⟩:Addr) else (some (⟨bl,0,none⟩:Addr)).map (·.add (0*i.size)))=some ⟨bl,0,none⟩:=by
   split
   ·rfl
   ·simp [Addr.add_lit]
  rw [hval] at hrun
  have hex:(execOp a.eval o).run P m.w = .ok (.value (.slice (some ⟨bl,0,none⟩) b cap)) m.w:=by
   simp only [execOp,ho,hv,Option.map_none,Option.map_some,Sem.run_bind,hrun,Result.andThen_ok,Sem.run_pure]
   simp
  have hlt:n<H.length:=by
   rcases Nat.lt_or_ge n H.length with h | h
   ·exact h
   ·rw [List.getD_eq_getElem?_getD,List.getElem?_eq_none h] at hn;cases hn
  have hH:(H.set n (some (⟨ob.T,ob.c.take (b*i.size)⟩:Ob))).getD n none=some ⟨ob.T,ob.c.take (b*i.size)⟩:=by
   rw [o_n,if_pos ⟨rfl,hlt⟩]
  unfold Oper.wp
  rw [hex]
  refine hK _ m ⟨hbs,Mem.le.refl m _,?_,fun k hk ob' h'=>?_,fun _ _=>rfl,fun k hk _=>?_,fun k hk k' hk' _ _ _=>by simp at hk hk';omega⟩
  ·unfold V.rep
   exact ⟨bl,t',zz,cap,h1,hsh,hzz,rfl,by omega,hcm⟩
  ·simp at hk;subst hk
   rw [hH] at h';cases h'
   refine ⟨bl,vs.take (b*i.size),vs.drop (b*i.size)++more,h1,?_,fun u hu=>h3 u (List.mem_of_mem_take hu),V.reps_take h4 _,h5⟩
   rw [o_0 hT,h2,←List.append_assoc,List.take_append_drop]
  ·simp at hk;subst hk
   exact ⟨bl,h1,.inr ⟨k,by simp,by rw [live,hn];rfl,h1⟩⟩
end
end
section
open Go.RowKit
section
variable {P:Program} {o:Oper} {T:List V} {H:List (Option Ob)}
theorem objC (c:Int) (buf:List Value):objOf 1000001 (.int .i64 c::buf) [] = .chan c.toNat buf.toArray false 0 0 false:=by
 unfold objOf TG
 rw [if_neg (by omega),if_neg (by omega),if_pos rfl]
 rfl
theorem o_4v (t e:TypeId) (x:Operand) (d:ChanDir) (i:TypeInfo) (k:IntKind) (n:Int) (ho:o.op = .makeChan t x) (hu:P.underlying t=some (.chan d e)) (hi:P.info? e=some i) (hx:(X.of x).ev T = .d (.int k n)) (h0:0≤n) (hb:(i.bytes:Int)*n≤281474976710544) (hm:n≤9223372036854775807) :
  StepOK P o (X.of x).slots T H (.ch H.length) (H++[some ⟨1000001,[.d (.int .i64 n)]⟩]) [] [H.length]:=by
 obtain ⟨q,rfl⟩:=Int.eq_ofNat_of_zero_le h0
 refine StepOK.newO ⟨1000001,[.d (.int .i64 q)]⟩ fun m a hbm hs _=>⟨[.int .i64 q],by simp [Value.oneCell'],?_,.chan (some m.w.heap.size),?_,fun m' hρ _ _=>?_⟩
 ·exact V.reps_cons.2 ⟨V.rep_int.2 rfl,V.reps_nil.2 rfl⟩
 ·have hvx:=V.rep_int.1 (X.rep' hs hx)
  rw [objC]
  have:=Go.Conc.run_makeChan (P:=P) (w:=m.w) hu hi k q hm hb
  simp [execOp,ho,hvx,this]
 ·unfold V.rep;exact ⟨_,hρ,rfl⟩
end
end
section
open Go.RowKit
section
variable {P:Program} {o:Oper} {T:List V} {H:List (Option Ob)} {K:V→List (Option Ob)→List Nat→List Nat→Prop}

theorem o_4w {m:Mem} {a:Act} {S:List Nat} (c:Call) (f:FuncId) (ho:o.op = .call c) (hc:c.callee = .value (.func f)) (hs:Slots m a T (X.slotss (c.args.toList.map X.of))) :
  ∃vs:List Value,V.reps m ((c.args.toList.map X.of).map (X.ev T)) vs∧(execOp a.eval o).run P m.w=(callFunc f vs.toArray).run P m.w:=by
 refine ⟨c.args.toList.map a.eval,o_11 _ hs,?_⟩
 have:(c.args.toList.map a.eval).toArray=c.args.map a.eval:=by rw [←Array.toList_map]
 simp [execOp,ho,Go.resolve,hc,Act.eval,Deferred.ofValue,invoke,this]

theorem o_4x {m:Mem} {a:Act} (c:Call) (f:Operand) (g:FuncId) (caps:List V) (ho:o.op = .call c) (hc:c.callee = .value f) (hf:(X.of f).ev T = .fn (.func g) caps) (hs:Slots m a T ((X.of f).slots++X.slotss (c.args.toList.map X.of))) :
  ∃vs:List Value,V.reps m ((c.args.toList.map X.of).map (X.ev T)++caps) vs∧(execOp a.eval o).run P m.w=(callFunc g vs.toArray).run P m.w:=by
 have hv:=X.rep' (o_9 hs) hf
 unfold V.rep at hv
 obtain ⟨us,hv,hr⟩:=hv
 refine ⟨c.args.toList.map a.eval++us,V.reps_append (o_11 _ (o_a hs)) hr,?_⟩
 have:(c.args.toList.map a.eval++us).toArray=c.args.map a.eval++us.toArray:=by
  apply Array.ext';simp
 simp [execOp,ho,Go.resolve,hc,hv,Deferred.ofValue,invoke,this]

theorem o_4y {m:Mem} {a:Act} (c:Call) (f:Operand) (g:FuncId) (l:List V) (ho:o.op = .call c) (hc:c.callee = .value f) (hf:(X.of f).ev T = .fb (.func g) l) (hs:Slots m a T ((X.of f).slots++X.slotss (c.args.toList.map X.of))) :
  ∃vs:List Value,V.reps m (l++(c.args.toList.map X.of).map (X.ev T)) vs∧(execOp a.eval o).run P m.w=(callFunc g vs.toArray).run P m.w:=by
 have hv:=X.rep' (o_9 hs) hf
 unfold V.rep at hv
 obtain ⟨us,hv,hr⟩:=hv
 refine ⟨us++c.args.toList.map a.eval,V.reps_append hr (o_11 _ (o_a hs)),?_⟩
 have:(us++c.args.toList.map a.eval).toArray=us.toArray++c.args.map a.eval:=by
  apply Array.ext';simp
 simp [execOp,ho,Go.resolve,hc,hv,Deferred.ofValue,invoke,this]

theorem o_4z {m:Mem} {a:Act} (c:Call) (r:Operand) (name:String) (t:TypeId) (d:D) (g:FuncId) (hg:MethOK P t name g) (ho:o.op = .call c) (hc:c.callee = .invoke r name) (hr:(X.of r).ev T = .d (.ifc t d)) (hs:Slots m a T ((X.of r).slots++X.slotss (c.args.toList.map X.of))) :
  ∃vs:List Value,V.reps m (.d d::(c.args.toList.map X.of).map (X.ev T)) vs∧(execOp a.eval o).run P m.w=(callFunc g vs.toArray).run P m.w:=by
 have hv:=X.rep' (o_9 hs) hr
 rw [V.rep_d] at hv
 unfold D.rep at hv
 obtain ⟨u,hv,hu⟩:=hv
 refine ⟨u::c.args.toList.map a.eval,V.reps_cons.2 ⟨V.rep_d.2 hu,o_11 _ (o_a hs)⟩,?_⟩
 have e1:(u::c.args.toList.map a.eval).toArray = #[u]++c.args.map a.eval:=by
  apply Array.ext';simp
 have e2:(#[a.eval r]++c.args.map a.eval)[0]?=some (.iface t u):=by rw [hv,Array.getElem?_append_left (by simp)];rfl
 have e3:(#[a.eval r]++c.args.map a.eval).extract 1 (#[a.eval r]++c.args.map a.eval).size=c.args.map a.eval:=by
  apply Array.ext';simp [List.take_of_length_le]
 simp only [execOp,ho,Go.resolve,hc,Sem.run_bind,Sem.run_pure,Result.andThen_ok,invoke,e2,e3,callMethod,run_program,hg u m.w,e1]

theorem o_50 (hnx:∀x,o.op≠.next x false) (h:(resolve P o).step P T H K):∃x H' rd wr,K x H' rd wr∧StepOK P o (resolve P o).slots T H x H' rd wr:=by
 unfold resolve at h ⊢
 split at h
 ·rename_i x ho;simp only [A.step,need] at h;exact ⟨_,_,_,_,h,o_8 x (.inl ho)⟩
 ·rename_i x ho;simp only [A.step,need] at h;exact ⟨_,_,_,_,h,o_8 x (.inr ho)⟩
 ·rename_i c x y ho
  simp only [A.step,need] at h
  split at h
  ·rename_i t hc;exact ⟨_,_,_,_,h,o_b c x y t ho hc⟩
  ·exact h.elim
 ·rename_i e ho
  split at h
  ·rename_i z hz
   split at h
   ·rename_i hT;rw [if_pos hT];simp only [A.step,need] at h;exact ⟨_,_,_,_,h,o_d e z hT ho hz⟩
   ·exact h.elim
  ·rename_i hz
   split at h
   ·rename_i i hi
    split at h
    ·rename_i hz2
     split at h
     ·rename_i hT;rw [if_pos hT];simp only [A.step,need] at h;exact ⟨_,_,_,_,h,o_4o e hT ho hi hz2⟩
     ·exact h.elim
    ·exact h.elim
   ·exact h.elim
 ·rename_i e x ho
  split at h
  ·rename_i hT
   rw [if_pos hT]
   simp only [A.step,need] at h
   split at h
   ·rename_i c hc;exact ⟨_,_,_,_,h,o_e e x c hT ho hc⟩
   ·exact h.elim
  ·exact h.elim
 ·rename_i t ps ho
  split at h
  ·rename_i fs z hu hz
   split at h
   ·rename_i pl hf
    split at h
    ·rename_i l hp
     simp only [A.step,need] at h
     split at h
     ·rename_i c hc
      exact ⟨_,_,_,_,h,o_u t ps fs z pl l c ho hu hz hf hp hc⟩
     ·exact h.elim
    ·exact h.elim
   ·exact h.elim
  ·rename_i n e z hu hz
   split at h
   ·rename_i j hj
    split at h
    ·rename_i l hp
     simp only [A.step,need] at h
     split at h
     ·rename_i c hc
      exact ⟨_,_,_,_,h,o_2t t e n ps z j l c ho hu hz hj hp hc⟩
     ·exact h.elim
    ·exact h.elim
   ·exact h.elim
  ·rename_i fs hu hz
   split at h
   ·rename_i zs pl hzs hf
    split at h
    ·rename_i l hp
     simp only [A.step,need] at h
     split at h
     ·rename_i c hc
      exact ⟨_,_,_,_,h,o_42 t ps fs zs pl l c ho hu hzs hf hp hc⟩
     ·exact h.elim
    ·exact h.elim
   ·exact h.elim
  ·exact h.elim
 ·rename_i t x ho
  split at h
  ·rename_i g i hg hi
   simp only [A.step,need] at h
   split at h
   ·rename_i n off hx
    split at h
    ·rename_i ob hn
     obtain ⟨hT,h⟩:=h
     obtain ⟨k1,k2⟩:=o_j (P:=P) (H:=H) t x i g n off ob ho hg hi hx hn hT
     cases g
     ·simp only [Bool.false_eq_true,if_false] at h;exact ⟨_,_,_,_,h.2,k2 rfl h.1⟩
     ·simp only [if_true] at h;exact ⟨_,_,_,_,h.2,k1 rfl h.1⟩
    ·exact h.elim
   ·rename_i l off hx
    obtain ⟨k1,k2⟩:=o_k (P:=P) (H:=H) t x i g l off ho hg hi hx
    cases g
    ·simp only [Bool.false_eq_true,if_false] at h;exact ⟨_,_,_,_,h.2,k2 rfl h.1⟩
    ·simp only [if_true] at h;exact ⟨_,_,_,_,h.2,k1 rfl h.1⟩
   ·exact h.elim
  ·exact h.elim
 ·rename_i t x y ho
  split at h
  ·rename_i i hi
   simp only [A.step,need] at h
   split at h
   ·rename_i n off c hx hy
    split at h
    ·rename_i ob hn;exact ⟨_,_,_,_,h.2.2,o_p t x y i n off ob c ho hi hx hy hn h.1 h.2.1.1 h.2.1.2⟩
    ·exact h.elim
   ·exact h.elim
  ·exact h.elim
 ·rename_i x ho
  simp only [A.step,need] at h
  split at h
  ·rename_i n k hx;exact ⟨_,_,_,_,h,o_w x _ ho hx (.inl ⟨_,_,rfl⟩)⟩
  ·rename_i n k hx;exact ⟨_,_,_,_,h,o_w x _ ho hx (.inr (.inl ⟨_,_,rfl⟩))⟩
  ·rename_i n k hx;exact ⟨_,_,_,_,h,o_w x _ ho hx (.inr (.inr (.inl ⟨_,_,rfl⟩)))⟩
  ·rename_i n k hx;exact ⟨_,_,_,_,h,o_w x _ ho hx (.inr (.inr (.inr ⟨_,_,rfl⟩)))⟩
  ·exact h.elim
 ·rename_i op t x y t' ho
  have hbin:(A.bin op (X.of x) (X.of y)).step P T H K→∃x' H' rd wr,K x' H' rd wr∧StepOK P o ((X.of x).slots++(X.of y).slots) T H x' H' rd wr:=by
   intro h
   simp only [A.step,need] at h
   split at h
   ·rename_i k a k' b hx hy
    obtain ⟨d,h1,h2⟩:=o_18 (P:=P) (H:=H) op t t' x y k k' a b ho hx hy _ h
    exact ⟨_,_,_,_,h1,h2⟩
   ·rename_i a b hx hy
    obtain ⟨d,h1,h2⟩:=o_19 (P:=P) (H:=H) op t t' x y a b ho hx hy _ h
    exact ⟨_,_,_,_,h1,h2⟩
   ·exact h.elim
  have hbeq:∀hop:op = .eql∨op = .neq,P.underlying t=some .bool→(A.beq (op==.neq) (X.of x) (X.of y)).step P T H K→∃x' H' rd wr,K x' H' rd wr∧StepOK P o ((X.of x).slots++(X.of y).slots) T H x' H' rd wr:=by
   intro hop hu h
   simp only [A.step,need] at h
   split at h
   ·rename_i a b hx hy
    exact ⟨_,_,_,_,h,o_1a op t t' x y a b hop ho hu hx hy⟩
   ·exact h.elim
  have hsnl:∀hop:op = .eql∨op = .neq,∀e l k,P.underlying t=some (.slice e)→o.op = .binOp op t x (.const (.slice none l k)) t'→(A.snl (op==.neq) (X.of x)).step P T H K→∃x' H' rd wr,K x' H' rd wr∧StepOK P o (X.of x).slots T H x' H' rd wr:=by
   intro hop e l k hu ho hh
   simp only [A.step,need] at hh
   split at hh
   ·rename_i hx;exact ⟨_,_,_,_,hh,by have:=o_2b (P:=P) (H:=H) op t t' e x l k _ true hop ho hu hx (.inl ⟨rfl,rfl⟩);cases hop<;>(rename_i hop;subst hop;exact this)⟩
   ·rename_i n c hx;exact ⟨_,_,_,_,hh.2,by have:=o_2b (P:=P) (H:=H) op t t' e x l k _ false hop ho hu hx (.inr ⟨rfl,.inl ⟨_,_,rfl,hh.1⟩⟩);cases hop<;>(rename_i hop;subst hop;exact this)⟩
   ·rename_i hx;exact ⟨_,_,_,_,hh,by have:=o_2b (P:=P) (H:=H) op t t' e x l k _ false hop ho hu hx (.inr ⟨rfl,.inr (.inl ⟨_,_,_,rfl⟩)⟩);cases hop<;>(rename_i hop;subst hop;exact this)⟩
   ·rename_i hx;exact ⟨_,_,_,_,hh,by have:=o_2b (P:=P) (H:=H) op t t' e x l k _ false hop ho hu hx (.inr ⟨rfl,.inr (.inr (.inl rfl))⟩);cases hop<;>(rename_i hop;subst hop;exact this)⟩
   ·rename_i hx;exact ⟨_,_,_,_,hh,by have:=o_2b (P:=P) (H:=H) op t t' e x l k _ false hop ho hu hx (.inr ⟨rfl,.inr (.inr (.inr ⟨_,_,_,rfl⟩))⟩);cases hop<;>(rename_i hop;subst hop;exact this)⟩
   ·exact hh.elim
  have hinl:∀hop:op = .eql∨op = .neq,∀ms,P.underlying t=some (.interface ms)→o.op = .binOp op t x (.const .nilIface) t'→(A.inl (op==.neq) (X.of x)).step P T H K→∃x' H' rd wr,K x' H' rd wr∧StepOK P o (X.of x).slots T H x' H' rd wr:=by
   intro hop ms hu ho hh
   simp only [A.step,need] at hh
   split at hh
   ·rename_i hx;exact ⟨_,_,_,_,hh,by have:=o_2c (P:=P) (H:=H) op t t' x ms _ true hop ho hu hx (.inl ⟨rfl,rfl⟩);cases hop<;>(rename_i hop;subst hop;exact this)⟩
   ·rename_i hx;exact ⟨_,_,_,_,hh,by have:=o_2c (P:=P) (H:=H) op t t' x ms _ false hop ho hu hx (.inr ⟨rfl,_,_,rfl⟩);cases hop<;>(rename_i hop;subst hop;exact this)⟩
   ·exact hh.elim
  have hpnl:∀hop:op = .eql∨op = .neq,∀e,P.underlying t=some (.pointer e)→o.op = .binOp op t x (.const (.pointer none)) t'→(A.pnl (op==.neq) (X.of x)).step P T H K→∃x' H' rd wr,K x' H' rd wr∧StepOK P o (X.of x).slots T H x' H' rd wr:=by
   intro hop e hu ho hh
   simp only [A.step,need] at hh
   split at hh
   ·rename_i hx;exact ⟨_,_,_,_,hh,by have:=o_2d (P:=P) (H:=H) op t t' e x _ true hop ho hu hx (.inl ⟨rfl,rfl⟩);cases hop<;>(rename_i hop;subst hop;exact this)⟩
   ·rename_i hx;exact ⟨_,_,_,_,hh,by have:=o_2d (P:=P) (H:=H) op t t' e x _ false hop ho hu hx (.inr ⟨rfl,.inl ⟨_,_,rfl⟩⟩);cases hop<;>(rename_i hop;subst hop;exact this)⟩
   ·rename_i hx;exact ⟨_,_,_,_,hh,by have:=o_2d (P:=P) (H:=H) op t t' e x _ false hop ho hu hx (.inr ⟨rfl,.inr ⟨_,_,rfl⟩⟩);cases hop<;>(rename_i hop;subst hop;exact this)⟩
   ·exact hh.elim
  have haeq:∀hop:op = .eql∨op = .neq,∀fs ks,P.underlying t=some (.struct fs)→P.stoodInHeld t=false→P.eqGuardType P.depth t=false→flatK2 P 0 fs.toList=some ks→(A.aeq (op==.neq) ks (X.of x) (X.of y)).step P T H K→∃x' H' rd wr,K x' H' rd wr∧StepOK P o ((X.of x).slots++(X.of y).slots) T H x' H' rd wr:=by
   intro hop fs ks hu h1 h2 h3 h
   simp only [A.step,need] at h
   split at h
   ·rename_i l r hx hy
    split at h
    ·rename_i b he;exact ⟨_,_,_,_,h,o_2j op t t' x y fs ks l r b hop ho hu h1 h2 h3 hx hy he⟩
    ·exact h.elim
   ·exact h.elim
  have hall:∀hop:op = .eql∨op = .neq,(rEq P op t x y).step P T H K→∃x' H' rd wr,K x' H' rd wr∧StepOK P o (rEq P op t x y).slots T H x' H' rd wr:=by
   intro hop h
   unfold rEq at h ⊢
   split at h
   ·exact hbin h
   ·exact hbin h
   ·rename_i hu;exact hbeq hop hu h
   ·rename_i e hu
    clear hbin hbeq haeq
    split at h
    ·exact hsnl hop e _ _ hu ho h
    ·exact h.elim
   ·rename_i ms hu
    clear hbin hbeq haeq
    split at h
    ·exact hinl hop ms hu ho h
    ·exact h.elim
   ·rename_i e hu
    clear hbin hbeq haeq
    split at h
    ·exact hpnl hop e hu ho h
    ·split at h
     ·rename_i j hj
      simp only [A.step,need] at h
      split at h
      ·rename_i n1 o1 m1 q1 hx hy
       obtain ⟨⟨rfl,rfl⟩,h⟩:=h
       exact ⟨_,_,_,_,h,o_4e op t t' e x y j n1 o1 hop ho hu hj hx hy⟩
      ·exact h.elim
     ·exact h.elim
   ·rename_i fs hu
    split at h
    ·rename_i ks h1 h2 h3
     exact haeq hop fs ks hu h1 h2 h3 h
    ·exact h.elim
   ·exact h.elim
  unfold rBin at h ⊢
  split at h
  ·exact hall (.inl rfl) h
  ·exact hall (.inr rfl) h
  ·exact hbin h
 ·rename_i op t x ho
  simp only [A.step,need] at h
  split at h
  ·rename_i b hx;exact ⟨_,_,_,_,h,(o_x _ t x _ ho rfl).1 b rfl hx⟩
  ·rename_i k n hx;exact ⟨_,_,_,_,h,(o_x _ t x _ ho rfl).2.1 k n rfl hx⟩
  ·rename_i k n hx;exact ⟨_,_,_,_,h,(o_x _ t x _ ho rfl).2.2 k n rfl hx⟩
  ·exact h.elim
 ·rename_i src dst x ho
  split at h
  ·rename_i kk k h1 h2
   simp only [A.step,need] at h
   split at h
   ·rename_i k' n hx;exact ⟨_,_,_,_,h,o_y src dst x k k' kk n ho h1 h2 hx⟩
   ·exact h.elim
  ·rename_i h1 h2
   simp only [A.step,need] at h
   split at h
   ·rename_i s hx;exact ⟨_,_,_,_,h,o_z src dst x s ho h1 h2 hx⟩
   ·exact h.elim
  ·rename_i e h1 h2
   split at h
   ·rename_i he
    simp only [A.step,need] at h
    split at h
    ·rename_i k c rd hy
     split at h
     ·rename_i ns hn;exact ⟨_,_,_,_,h.2,o_2q src dst e x k c rd ns ho h1 h2 he hy hn h.1⟩
     ·exact h.elim
    ·exact h.elim
   ·exact h.elim
  ·rename_i t h1 h2
   split at h
   ·rename_i j hj
    split at h
    ·exact h.elim
    ·rename_i hj0
     simp only [A.step,need] at h
     rw [if_neg hj0]
     split at h
     ·rename_i n off hx
      split at h
      ·rename_i ob hn
       obtain ⟨h0,h3,h⟩:=h
       exact ⟨_,_,_,_,h,o_4a src dst t x j n off ob ho h1 h2 hj hj0 hx hn h0 h3⟩
      ·exact h.elim
     ·exact h.elim
   ·exact h.elim
  ·rename_i u h1 h2
   split at h
   ·rename_i j hj
    simp only [A.step,need] at h
    split at h
    ·rename_i n off hx
     split at h
     ·rename_i ob hn
      obtain ⟨h0,⟨h3,h4,h5⟩,h⟩:=h
      exact ⟨_,_,_,_,h,o_4b src dst u x j n off ob ho h1 h2 hj hx hn h0 h3 h4 h5⟩
     ·exact h.elim
    ·exact h.elim
   ·exact h.elim
  ·exact h.elim
 ·rename_i t x ho
  split at h
  ·exact h.elim
  ·exact h.elim
  ·rename_i d hd h1
   simp only [A.step,need] at h
   split at h
   ·rename_i y hx
    exact ⟨_,_,_,_,h,o_10 t x d y ho h1 (fun ms e=>hd ms (by rw [e])) hx⟩
   ·exact h.elim
 ·rename_i fn first caps ho
  split at h
  ·rename_i hf
   simp only [A.step,need] at h
   rw [if_pos hf]
   exact ⟨_,_,_,_,h,o_12 fn first caps ho hf⟩
  ·rename_i hf
   rw [if_neg hf]
   split at h
   ·rename_i hf2
    rw [if_pos hf2]
    simp only [A.step,need] at h
    exact ⟨_,_,_,_,h,o_4c fn first caps ho hf2⟩
   ·exact h.elim
 ·rename_i t n c ho
  split at h
  ·rename_i e hu
   split at h
   ·rename_i i hi
    split at h
    ·rename_i z hz
     split at h
     ·rename_i l hd
      split at h
      ·rename_i hl
       simp only [A.step,need] at h
       split at h
       ·rename_i k a k' b hx hy
        obtain ⟨⟨h0,rfl,h2,h3,h4⟩,h⟩:=h
        simp only [hi,hz,hd,if_pos hl]
        exact ⟨_,_,_,_,h,o_14 t e n c i z l k k' a ho hu hi hz hd hl.1 hx hy h0 h2 h3 h4 hl.2⟩
       ·exact h.elim
      ·exact h.elim
     ·exact h.elim
    ·exact h.elim
   ·exact h.elim
  ·exact h.elim
 ·rename_i t x f ho
  split at h
  ·rename_i fs hu
   split at h
   ·rename_i g hf
    split at h
    ·rename_i i hi
     split at h
     ·exact h.elim
     ·rename_i h0
      simp only [A.step,need] at h
      simp only [hf,hi,if_neg h0]
      obtain ⟨k1,k2⟩:=o_1b (P:=P) (H:=H) (T:=T) t x f fs g i ho hu hf hi h0
      split at h
      ·rename_i n k hx;exact ⟨_,_,_,_,h,k1 _ _ hx⟩
      ·rename_i n k hx;exact ⟨_,_,_,_,h,k2 _ _ hx⟩
      ·exact h.elim
    ·exact h.elim
   ·exact h.elim
  ·exact h.elim
 ·rename_i t x f ho
  split at h
  ·rename_i fs hu
   split at h
   ·rename_i g hf
    split at h
    ·rename_i q i hq hi
     simp only [A.step,need] at h
     obtain ⟨k1,k2⟩:=o_1c (P:=P) (H:=H) (T:=T) t x f fs g i q ho hu hf hq hi
     split at h
     ·rename_i l hx
      cases q
      ·simp only [Bool.false_eq_true,if_false] at h;exact ⟨_,_,_,_,h.2,(k1 l hx).2 rfl h.1⟩
      ·simp only [if_true] at h;exact ⟨_,_,_,_,h.2,(k1 l hx).1 rfl h.1⟩
     ·rename_i l hx
      cases q
      ·simp only [Bool.false_eq_true,if_false] at h;exact ⟨_,_,_,_,h.2,(k2 l hx).2 rfl h.1⟩
      ·simp only [if_true] at h;exact ⟨_,_,_,_,h.2,(k2 l hx).1 rfl h.1⟩
     ·exact h.elim
    ·exact h.elim
   ·exact h.elim
  ·exact h.elim
 ·rename_i t x y ho
  split at h
  ·rename_i e hu
   split at h
   ·rename_i i hi
    simp only [A.step,need] at h
    split at h
    ·rename_i n l k a hx hy
     obtain ⟨⟨h0,h1,h2⟩,h⟩:=h
     exact ⟨_,_,_,_,h,(o_1e t e x y i k a ho hu hi hy h0).1 n l hx h1 h2⟩
    ·rename_i n s' len k a hx hy
     obtain ⟨⟨h0,h1,rfl⟩,h⟩:=h
     exact ⟨_,_,_,_,h,(o_1e t e x y i k a ho hu hi hy h0).2.1 n len hx h1⟩
    ·rename_i n off len k a hx hy
     obtain ⟨⟨h0,h1⟩,h⟩:=h
     exact ⟨_,_,_,_,h,(o_1e t e x y i k a ho hu hi hy h0).2.2 n off len hx h1⟩
    ·exact h.elim
   ·exact h.elim
  ·rename_i n e hu
   split at h
   ·rename_i i hi
    split at h
    ·rename_i g
     split at h
     ·rename_i l hg
      simp only [A.step,need] at h
      split at h
      ·rename_i k a hy
       exact ⟨_,_,_,_,h.2,o_2r t e g l y n i k a ho hu hi hg hy h.1.1 h.1.2⟩
      ·exact h.elim
     ·exact h.elim
    ·simp only [A.step,need] at h
     split at h
     ·rename_i m off k a hx hy
      exact ⟨_,_,_,_,h.2,(o_2l t e x y n i k a ho hu hi hy h.1.1 h.1.2).1 m off hx⟩
     ·rename_i l off k a hx hy
      exact ⟨_,_,_,_,h.2,(o_2l t e x y n i k a ho hu hi hy h.1.1 h.1.2).2 l off hx⟩
     ·exact h.elim
   ·exact h.elim
  ·exact h.elim
 ·rename_i x i ho
  simp only [A.step,need] at h
  split at h
  ·rename_i l hx;exact ⟨_,_,_,_,h.2,o_1d x i l ho hx h.1⟩
  ·exact h.elim
 ·rename_i t x y ho
  split at h
  ·rename_i hu
   simp only [A.step,need] at h
   split at h
   ·rename_i s k a hx hy
    exact ⟨_,_,_,_,h.2,o_2m t x y s k a ho hu hx hy h.1.1 h.1.2⟩
   ·exact h.elim
  ·rename_i n e hu
   split at h
   ·rename_i q i hq hi
    simp only [A.step,need] at h
    split at h
    ·rename_i l k a hx hy
     cases q
     ·simp only [Bool.false_eq_true,if_false] at h;exact ⟨_,_,_,_,h.2,((o_2u t e x y n false i k a ho hu hq hi hy h.1.1 h.1.2.1).1 l hx).2 rfl h.1.2.2⟩
     ·simp only [if_true] at h;exact ⟨_,_,_,_,h.2,((o_2u t e x y n true i k a ho hu hq hi hy h.1.1 h.1.2.1).1 l hx).1 rfl h.1.2.2⟩
    ·rename_i l k a hx hy
     cases q
     ·simp only [Bool.false_eq_true,if_false] at h;exact ⟨_,_,_,_,h.2,((o_2u t e x y n false i k a ho hu hq hi hy h.1.1 h.1.2.1).2 l hx).2 rfl h.1.2.2⟩
     ·simp only [if_true] at h;exact ⟨_,_,_,_,h.2,((o_2u t e x y n true i k a ho hu hq hi hy h.1.1 h.1.2.1).2 l hx).1 rfl h.1.2.2⟩
    ·exact h.elim
   ·exact h.elim
  ·exact h.elim
 ·rename_i t x lo hi mx ho
  split at h
  ·rename_i e hu
   split at h
   ·rename_i i hi'
    simp only [A.step,need] at h
    obtain ⟨v,h1,h2⟩:=o_1m (P:=P) (H:=H) t e x lo hi mx i ho hu hi' _ h
    exact ⟨_,_,_,_,h1,h2⟩
   ·exact h.elim
  ·rename_i hu
   split at h
   ·rename_i hmx
    obtain rfl:mx=none:=by cases mx with
     | none=>rfl
     | some _=>simp at hmx
    simp only [A.step,need] at h
    split at h
    ·rename_i s hx
     split at h
     ·rename_i a b ha hb
      exact ⟨_,_,_,_,h.2,o_1k t x lo hi s a b ho hu hx ha hb h.1.1 h.1.2.1 h.1.2.2⟩
     ·exact h.elim
    ·exact h.elim
   ·exact h.elim
  ·rename_i n e hu
   split at h
   ·rename_i j hi'
    simp only [A.step,need] at h
    split at h
    ·rename_i mm off a b hx ha hb;exact ⟨_,_,_,_,h.2,o_2v t e x lo hi n j mm off a b ho hu hi' hx ha hb h.1.1 h.1.2.1 h.1.2.2.1 h.1.2.2.2⟩
    ·exact h.elim
   ·exact h.elim
  ·exact h.elim
 ·rename_i t n ps ho
  split at h
  ·rename_i e hu
   split at h
   ·rename_i i hi
    split at h
    ·rename_i z hz
     split at h
     ·rename_i hn0
      obtain ⟨rfl,hps⟩:=hn0
      simp only [A.step] at h
      simp only [hi,hz]
      rw [if_pos ⟨trivial,hps⟩]
      exact ⟨_,_,_,_,h,o_2k t e ps i ho hps hu hi⟩
     rename_i hn0
     split at h
     ·exact h.elim
     ·rename_i hn
      split at h
      ·rename_i zl l hd hp
       simp only [A.step,need] at h
       split at h
       ·rename_i c hc
        simp only [hi,hz,if_neg hn0,if_neg hn,hd,hp]
        exact ⟨_,_,_,_,h,o_v t e n ps i z zl l c ho hu hi hz (by omega) (by omega) hd hp hc (Nat.lt_of_not_le fun h=>hn (.inr (.inr h)))⟩
       ·exact h.elim
      ·exact h.elim
    ·exact h.elim
   ·exact h.elim
  ·exact h.elim
 ·rename_i c ho
  split at h
  ·rename_i f hc
   simp only [A.step,need] at h
   simp only [A.slots]
   exact o_20 h fun m a hs=>o_4w (S:=[]) c f ho hc hs
  ·rename_i f _ hc
   simp only [A.step,need] at h
   split at h
   ·rename_i g caps hf
    exact o_20 h fun m a hs=>o_4x c f g caps ho hc hf hs
   ·rename_i g l hf
    exact o_20 h fun m a hs=>o_4y c f g l ho hc hf hs
   ·exact h.elim
  ·rename_i r name hc
   simp only [A.step,need] at h
   split at h
   ·rename_i t d hr
    obtain ⟨g,hg,h⟩:=h
    exact o_20 h fun m a hs=>o_4z c r name t d g hg ho hc hr hs
   ·exact h.elim
  ·rename_i hc
   split at h
   ·rename_i x h1 h2
    simp only [A.step,need] at h
    rw [Option.bind_eq_some_iff] at h1
    obtain ⟨t,ht,hd⟩:=h1
    split at h
    ·rename_i s hn
     exact ⟨_,_,_,_,h,o_1r c x t s ho hc ht hd h2 hn⟩
    ·exact h.elim
   ·rename_i e x h1 h2
    simp only [A.step,need] at h
    rw [Option.bind_eq_some_iff] at h1
    obtain ⟨t,ht,hd⟩:=h1
    split at h
    ·rename_i n hn
     exact ⟨_,_,_,_,h,o_1q c x t e n ho hc ht hd h2 hn⟩
    ·exact h.elim
   ·exact h.elim
  ·rename_i hc
   split at h
   ·rename_i t u x y ht ha
    split at h
    ·rename_i e e' hu1 hu2
     split at h
     ·rename_i i hi
      split at h
      ·rename_i z hz
       split at h
       ·rename_i hzs
        simp only [A.step,need] at h
        simp only [hi,hz,if_pos hzs]
        split at h
        ·rename_i k cs rd hy
         split at h
         ·rename_i hx
          split at h
          ·rename_i hk;subst hk
           exact ⟨_,_,_,_,h.2,o_23 c x y t u e i rd _ cs ho hc ht ha hu1 (.inl ⟨_,hu2⟩) hi hx (.inl rfl) (fun m a hs hob=>o_21 (P:=P) hu2 (X.rep' hs rfl) hy hob (by rw [h.1];simp)) h.1⟩
          ·rename_i hk
           obtain ⟨⟨h1,h2,h3,h4⟩,h⟩:=h
           exact ⟨_,_,_,_,h,o_24 c x y t u e i z k rd _ cs ho hc ht ha hu1 (.inl ⟨_,hu2⟩) hi hz hzs.1 hx (.inl rfl) (fun m a hs hob=>o_21 (P:=P) hu2 (X.rep' hs rfl) hy hob h3) hk h1 h2 h3 h4 hzs.2⟩
         ·rename_i hx
          split at h
          ·rename_i hk;subst hk
           exact ⟨_,_,_,_,h.2,o_23 c x y t u e i rd _ cs ho hc ht ha hu1 (.inl ⟨_,hu2⟩) hi hx (.inr rfl) (fun m a hs hob=>o_21 (P:=P) hu2 (X.rep' hs rfl) hy hob (by rw [h.1];simp)) h.1⟩
          ·rename_i hk
           obtain ⟨⟨h1,h2,h3,h4⟩,h⟩:=h
           exact ⟨_,_,_,_,h,o_24 c x y t u e i z k rd _ cs ho hc ht ha hu1 (.inl ⟨_,hu2⟩) hi hz hzs.1 hx (.inr rfl) (fun m a hs hob=>o_21 (P:=P) hu2 (X.rep' hs rfl) hy hob h3) hk h1 h2 h3 h4 hzs.2⟩
         ·rename_i q l hx
          obtain ⟨⟨h1,h2,h3,h4,h5,h6⟩,h⟩:=h
          exact ⟨_,_,_,_,h,o_25 c x y t u e e' i z q k rd l cs ho hc ht ha hu1 hu2 hi hz hzs.1 hx h4 hy h1 h2 h3 h5 h6 hzs.2⟩
         ·rename_i n s' q hx
          split at h
          ·rename_i ob hn
           obtain ⟨⟨rfl,h1,h2,h3,h4,h5,h6⟩,h⟩:=h
           exact ⟨_,_,_,_,h,o_26 c x y t u e i z n q k rd ob cs ho hc ht ha hu1 (.inl ⟨_,hu2⟩) hi hz hzs.1 hx hn (fun m a hs hob=>o_21 (P:=P) hu2 (X.rep' hs rfl) hy hob h5) h1 h2 h3 h4 h5 h6 hzs.2⟩
          ·exact h.elim
         ·exact h.elim
        ·exact h.elim
       ·exact h.elim
      ·exact h.elim
     ·exact h.elim
    ·rename_i e hu1 hu2
     split at h
     ·rename_i i hi
      split at h
      ·rename_i z hz
       split at h
       ·rename_i hzs
        simp only [A.step,need] at h
        simp only [hi,hz,if_pos hzs]
        split at h
        ·rename_i b hy
         have hS:∀(m:Mem) (a:Act),Slots m a T (X.of y).slots→(∀n∈([]:List Nat),∀ob,H.getD n none=some ob→m.obj n ob)→∃news:List Value,Src P i.size u (a.eval y) b.size news m.w∧V.reps m (bytesV b) news:=fun m a hs _=>by
          rw [hzs.1];exact o_4g hu2 (X.rep' hs hy)
         have hbl:(bytesV b).length=b.size*i.size:=by rw [hzs.1,o_4f,Nat.mul_one]
         split at h
         ·rename_i hx
          split at h
          ·rename_i hb0
           have:=o_23 (P:=P) (T:=T) (H:=H) c x y t u e i [] _ (bytesV b) ho hc ht ha hu1 (.inr hu2) hi hx (.inl rfl) (by rw [←hb0];exact hS) (by rw [o_4f,hb0])
           exact ⟨_,_,_,_,h,this⟩
          ·rename_i hb0
           obtain ⟨⟨h1,h2,h3⟩,h⟩:=h
           exact ⟨_,_,_,_,h,o_24 c x y t u e i z b.size [] _ (bytesV b) ho hc ht ha hu1 (.inr hu2) hi hz hzs.2.1 hx (.inl rfl) hS hb0 h1 h2 hbl h3 hzs.2.2⟩
         ·rename_i n s' q hx
          split at h
          ·rename_i ob hn
           obtain ⟨⟨rfl,h1,h2,h3,h4,h6⟩,h⟩:=h
           exact ⟨_,_,_,_,h,o_26 c x y t u e i z n q b.size [] ob (bytesV b) ho hc ht ha hu1 (.inr hu2) hi hz hzs.2.1 hx hn hS h1 h2 h3 h4 hbl h6 hzs.2.2⟩
          ·exact h.elim
         ·exact h.elim
        ·exact h.elim
       ·exact h.elim
      ·exact h.elim
     ·exact h.elim
    ·rename_i e hu1 hu2
     split at h
     ·rename_i i hi
      split at h
      ·rename_i z hz
       split at h
       ·rename_i zl hd
        split at h
        ·rename_i hzs
         simp only [A.step,need] at h
         simp only [hi,hz,hd,if_pos hzs]
         split at h
         ·rename_i k hx hy
          obtain ⟨⟨h1,h2,h3,h4⟩,h⟩:=h
          obtain ⟨k',rfl⟩:∃k':Nat,k=(k':Int):=⟨k.toNat,by omega⟩
          rw [Int.toNat_natCast] at h
          exact ⟨_,_,_,_,h,o_4s c x y t u e i z zl k' ho hc ht ha hu1 hu2 hi hz hd hzs.1 hzs.2.1 hx hy (by omega) h2 h3 (by rw [←Int.natCast_mul] at h4;omega) hzs.2.2⟩
         ·exact h.elim
        ·exact h.elim
       ·exact h.elim
      ·exact h.elim
     ·exact h.elim
    ·exact h.elim
   ·exact h.elim
  ·rename_i hc
   split at h
   ·rename_i e x h1 h2
    simp only [A.step,need] at h
    rw [Option.bind_eq_some_iff] at h1
    obtain ⟨t,ht,hd⟩:=h1
    split at h
    ·rename_i hn
     exact ⟨_,_,_,_,h,o_4t c x t e ho hc ht hd h2 hn⟩
    ·exact h.elim
   ·exact h.elim
  ·rename_i hc
   split at h
   ·rename_i t u x y ht ha
    split at h
    ·rename_i e e' hu1 hu2
     split at h
     ·rename_i i hi
      simp only [A.step,need] at h
      split at h
      ·rename_i k cs rd n off q hy hx
       split at h
       ·rename_i ob hn
        obtain ⟨hT,⟨h1,h2,h3⟩,h⟩:=h
        exact ⟨_,_,_,_,h,o_28 c x y t u e e' i n off q k rd ob cs ho hc ht ha hu1 hu2 hi hx hn hy h1 h2 h3 hT⟩
       ·exact h.elim
      ·exact h.elim
     ·exact h.elim
    ·exact h.elim
   ·exact h.elim
  ·rename_i hc
   split at h
   ·rename_i x ha
    simp only [A.step,need] at h
    split at h
    ·rename_i hx;exact ⟨_,_,_,_,h,o_4h c x _ _ ho hc ha hx (.inl ⟨rfl,rfl⟩)⟩
    ·rename_i n s q hx
     obtain ⟨h0,h⟩:=h
     exact ⟨_,_,_,_,h,o_4h c x _ _ ho hc ha hx (.inr ⟨n,s,q,rfl,h0,rfl⟩)⟩
    ·exact h.elim
   ·exact h.elim
  ·rename_i hc
   split at h
   ·rename_i t u x y ht ha
    split at h
    ·rename_i e hu
     split at h
     ·rename_i hce
      simp only [A.step,need] at h
      simp only [hu,if_pos hce]
      split at h
      ·rename_i k hy
       split at h
       ·rename_i hk0
        subst hk0
        split at h
        ·rename_i hx;exact ⟨_,_,_,_,h,o_4j c x y t u _ ho hc ht ha hx (.inl rfl) hy⟩
        ·rename_i n q hx;exact ⟨_,_,_,_,h,o_4j c x y t u _ ho hc ht ha hx (.inr ⟨_,_,rfl⟩) hy⟩
        ·exact h.elim
       ·rename_i hk0
        split at h
        ·rename_i n hx
         split at h
         ·rename_i ob hn
          split at h
          ·rename_i ns hns
           obtain ⟨⟨h1,h2,h3,h4,h5⟩,h⟩:=h
           exact ⟨_,_,_,_,h,o_4l c x y t u e n k ob ns ho hc ht ha hu hce.1 hce.2 hx hy hk0 hn hns h1 h2 h3 h4 h5⟩
          ·exact h.elim
         ·exact h.elim
        ·exact h.elim
      ·exact h.elim
     ·exact h.elim
    ·exact h.elim
   ·exact h.elim
  ·rename_i hc
   simp only [A.step,need] at h
   split at h
   ·rename_i k n hn;exact ⟨_,_,_,_,h,o_1t true c k n ho hc hn⟩
   ·exact h.elim
  ·rename_i hc
   simp only [A.step,need] at h
   split at h
   ·rename_i k n hn;exact ⟨_,_,_,_,h,o_1t false c k n ho hc hn⟩
   ·exact h.elim
  ·exact h.elim
 ·rename_i t ho
  split at h
  ·rename_i T0 r hm
   obtain ⟨ks,vw,g,zd⟩:=r
   simp only [A.step,need] at h
   exact ⟨_,_,_,_,h,o_37 t ho hm⟩
  ·split at h
   ·rename_i hm
    rw [if_pos hm]
    simp only [A.step,need] at h
    exact ⟨_,_,_,_,h,o_3w t ho⟩
   ·exact h.elim
 ·rename_i t x ho
  split at h
  ·rename_i d e hu
   split at h
   ·rename_i i hi
    simp only [A.step,need] at h
    split at h
    ·rename_i k n hx
     obtain ⟨⟨h0,h1,h2⟩,h⟩:=h
     exact ⟨_,_,_,_,h,o_4v t e x d i k n ho hu hi hx h0 h1 h2⟩
    ·exact h.elim
   ·exact h.elim
  ·exact h.elim
 ·rename_i t x k ho
  split at h
  ·rename_i T0 ks vw g zd hm
   simp only [A.step,need] at h
   split at h
   ·rename_i n kl hx hy
    split at h
    ·rename_i ob hn
     obtain ⟨h1,h2,h⟩:=h
     split at h
     ·rename_i ds hd
      split at h
      ·rename_i y hl
       exact ⟨_,_,_,_,h,o_3a t x k n kl ds ob y ho hm hx hy hn h1 h2 (V.toDs_eq hd) hl⟩
      ·exact h.elim
     ·exact h.elim
    ·exact h.elim
   ·exact h.elim
  ·exact h.elim
 ·rename_i t x k ho
  split at h
  ·rename_i hm
   rw [if_pos hm]
   simp only [A.step,need] at h
   split at h
   ·rename_i n s hx hy
    split at h
    ·rename_i ob hn
     obtain ⟨h1,h⟩:=h
     split at h
     ·rename_i ds hd
      split at h
      ·rename_i i hl
       exact ⟨_,_,_,_,h,o_3x t x k n s ds ob (some i) ho hm hx hy hn h1 (V.toDs_eq hd) hl⟩
      ·rename_i hl
       exact ⟨_,_,_,_,h,o_3x t x k n s ds ob none ho hm hx hy hn h1 (V.toDs_eq hd) hl⟩
      ·exact h.elim
     ·exact h.elim
    ·exact h.elim
   ·exact h.elim
  ·exact h.elim
 iterate 2
  rename_i t x k v ho
  split at h
  ·rename_i T0 ks vw g zd hm
   simp only [A.step,need] at h
   split at h
   ·rename_i n kl y hx hy hz
    split at h
    ·rename_i ob hn
     obtain ⟨h1,h2,h3,h⟩:=h
     split at h
     ·rename_i ds hd
      obtain ⟨⟨h4,h5⟩,h⟩:=h
      split at h
      ·rename_i ds' hl
       exact ⟨_,_,_,_,h,o_3m t x k v n kl ds ds' ob y (by first | exact .inl ho | exact .inr ho) hm hx hy hz hn h1 h2 h3 (V.toDs_eq hd) h4 h5 hl⟩
      ·exact h.elim
     ·exact h.elim
    ·exact h.elim
   ·exact h.elim
  ·split at h
   ·rename_i hm
    rw [if_pos hm]
    simp only [A.step,need] at h
    split at h
    ·rename_i n s j hx hy hz
     split at h
     ·rename_i ob hn
      obtain ⟨h1,h⟩:=h
      split at h
      ·rename_i ds hd
       split at h
       ·rename_i hl
        obtain ⟨h4,h⟩:=h
        exact ⟨_,_,_,_,h,o_3z t x k v n s j ds ob (by first | exact .inl ho | exact .inr ho) hm hx hy hz hn h1 (V.toDs_eq hd) hl h4⟩
       ·exact h.elim
      ·exact h.elim
     ·exact h.elim
    ·exact h.elim
   ·exact h.elim
 ·rename_i t x k ho
  split at h
  ·rename_i T0 ks vw g zd hm
   simp only [A.step,need] at h
   split at h
   ·rename_i n kl hx hy
    split at h
    ·rename_i ob hn
     obtain ⟨h1,h2,h⟩:=h
     split at h
     ·rename_i ds hd
      obtain ⟨h4,h⟩:=h
      split at h
      ·rename_i y j ds' hl
       exact ⟨_,_,_,_,h,o_4n t x k n kl ds ds' ob y j ho hm hx hy hn h1 h2 (V.toDs_eq hd) h4 hl⟩
      ·exact h.elim
     ·exact h.elim
    ·exact h.elim
   ·exact h.elim
  ·exact h.elim
 ·rename_i t x s v ho
  split at h
  ·rename_i T0 ks vw g zd hm
   simp only [A.step,need] at h
   split at h
   ·rename_i n j y hx hs hz
    split at h
    ·rename_i ob hn
     obtain ⟨h1,h2,h⟩:=h
     split at h
     ·rename_i ds hd
      obtain ⟨⟨h3,h4,h5⟩,h⟩:=h
      exact ⟨_,_,_,_,h,o_4q t x s v n j.toNat ds ob y ho hm hx (by rw [Int.toNat_of_nonneg h4];exact hs) hz hn h1 h2 (V.toDs_eq hd) h3 h5⟩
     ·exact h.elim
    ·exact h.elim
   ·exact h.elim
  ·exact h.elim
 ·rename_i t x ho
  split at h
  ·rename_i T0 ks vw g zd hm
   simp only [A.step,need] at h
   split at h
   ·rename_i n hx
    split at h
    ·rename_i ob hn
     exact ⟨_,_,_,_,h.2,o_3n t x n ob ho hm hx hn h.1⟩
    ·exact h.elim
   ·exact h.elim
  ·exact h.elim
 ·rename_i x ho;exact absurd ho (hnx x)
 ·rename_i x ho
  simp only [A.step,need] at h
  split at h
  ·rename_i n hx
   split at h
   ·rename_i ob hn
    split at h
    ·rename_i k N l hit
     split at h
     ·rename_i obk hk
      split at h
      ·rename_i ds i hd hi
       obtain ⟨h1,⟨h2,h3,h4,h5⟩,h⟩:=h
       exact ⟨_,_,_,_,h,o_3r x n k N i l ds ob obk ho hx hn hit hk (V.toDs_eq hd) hi h1 h2 h3 h4 h5⟩
      ·exact h.elim
     ·exact h.elim
    ·exact h.elim
   ·exact h.elim
  ·exact h.elim
 ·exact h.elim

end
end
section
open Go.RowKit
structure O where
 dst:Option Nat
 a:A
 g:Option (Nat×Bool)
 after:List Nat
 deriving Inhabited

inductive C where
 | skip | ret | bad
 | exit (id:Nat)
 | seq (a b:C)
 | cond (c:X) (a b:C)
 | block (id:Nat) (a:C)
 | loop (a:C)
 | scope (a:C)
 | reg (draw:Bool) (ops:List O)
 deriving Inhabited

def afterOf (o:Oper):List Nat:=o.after.toList.filterMap fun e=>if Region.binds .any e then some e.on else none
def isNx (o:Oper):Bool:=match o.op with
 | .next _ _=>true
 | _=>false
def zapp (P:Program) (o:Oper):Bool:=match o.op with
 | .call c=>match c.callee,c.argTypes.toList with
  | .builtin .append,[_,u]=>(match P.underlying u with
   | some (.int _)=>true
   | _=>false)
  | _,_=>false
 | _=>false
def cutA (P:Program) (ops:Array Oper) (o:Oper):Option A:=match o.op with
 | .slice t (.tmp j) none (some hi) none=>if ops.any (fun p=>p.dst==some j&&zapp P p) then (match P.underlying t with
  | some (.slice e)=>(P.info? e).map fun i=>.cut i.size (.t j) (X.of hi)
  | _=>none) else none
 | _=>none
def resolveA (P:Program) (draw:Bool) (ops:Array Oper) (o:Oper):A:=if draw&&isNx o then .bad else match cutA P ops o with
 | some a=>a
 | none=>resolve P o
def resolveQ (P:Program) (draw:Bool) (ops:Array Oper) (o:Oper):O :=
 match o.guard with
 | none=>⟨o.dst,resolveA P draw ops o,none,afterOf o⟩
 | some (j,w)=>if isNx o then ⟨o.dst,.bad,none,[]⟩ else match (ops[j]?).bind (·.dst) with
  | some d=>⟨o.dst,resolve P o,some (d,w),afterOf o⟩
  | none=>⟨o.dst,.bad,none,[]⟩
abbrev resolveO (P:Program) (ops:Array Oper) (o:Oper):O:=resolveQ P false ops o
def resolveC (P:Program):Code→C
 | .skip=>.skip
 | .ret=>.ret
 | .exit id=>.exit id
 | .seq a b=>.seq (resolveC P a) (resolveC P b)
 | .cond c a b=>.cond (X.of c) (resolveC P a) (resolveC P b)
 | .block id a=>.block id (resolveC P a)
 | .loop a=>.loop (resolveC P a)
 | .scope a=>.scope (resolveC P a)
 | .label _=>.skip
 | .region _ ops draw=>.reg draw (ops.toList.map (resolveQ P draw ops))
 | _=>.bad

structure Sat (m:Mem) (a:Act) (T:List V) (H:List (Option Ob)):Prop where
 base:m.base
 slots:∀s,(T.getD s .junk).rep m (a.tmps.getD s undef)
 obj:∀n ob,H.getD n none=some ob→m.obj n ob
 inj:∀n k b,live H n→live H k→m.ρ n=some b→m.ρ k=some b→n=k
 top:∀n,H.length≤n→m.ρ n=none
 size:a.tmps.size=T.length
 defers:a.defers=[]

def putT (T:List V) (d:Option Nat) (x:V):List V:=match d with
 | some d=>T.set d x
 | none=>T

structure E where
 srd:List Nat
 dst:Option Nat
 rd:List Nat
 wr:List Nat
 after:List Nat

def E.clash (i j:E):Bool :=
 (match i.dst with
  | some d=>j.srd.contains d || j.dst==some d
  | none=>false) ||
 (match j.dst with
  | some d=>i.srd.contains d
  | none=>false) ||
 i.wr.any (fun n=>j.rd.contains n || j.wr.contains n) || j.wr.any (fun n=>i.rd.contains n)

def ancs:List E→List (List Nat)
 | []=>[]
 | e::r=>let t:=ancs r;(e.after.flatMap fun j=>j::t.getD (r.length-1-j) []).eraseDups::t

def okTrace:List E→Bool
 | []=>true
 | e::r=>e.after.all (· < r.length)&&((List.range r.length).all fun k=>!(E.clash (r.getD k ⟨[],none,[],[],[]⟩) e) || ((ancs (e::r)).headD []).contains (r.length-1-k))&&okTrace r

def vops (P:Program) (draw:Bool) (K:List V→List (Option Ob)→Prop):List O→List E→List V→List (Option Ob)→Prop
 | [],tr,T,H=>if draw then need (okTrace tr=true) (K T H) else K T H
 | o::os,tr,T,H=>match o.g with
  | none=>o.a.step P T H fun x H' rd wr=>vops P draw K os (⟨o.a.slots,o.dst,rd,wr,o.after⟩::tr) (putT T o.dst x) H'
  | some (s,w)=>match T.getD s .junk with
   | .d (.bool b)=>(b=w→o.a.step P T H fun x H' rd wr=>vops P draw K os (⟨s::o.a.slots,o.dst,rd,wr,o.after⟩::tr) (putT T o.dst x) H') ∧
    (b≠w→vops P draw K os (⟨[s],o.dst,[],[],o.after⟩::tr) (putT T o.dst (.tup [])) H)
   | .tup []=>vops P draw K os (⟨[s],o.dst,[],[],o.after⟩::tr) (putT T o.dst (.tup [])) H
   | _=>False

def noGo (x:V) (w:Bool):Prop:=(∃b,x = .d (.bool b)∧b≠w)∨x = .tup []
def StepI (P:Program) (ops:Array Oper) (o:Oper) (T:List V) (H:List (Option Ob)) (x:V) (H':List (Option Ob)) (e:E):Prop :=
 e.dst=o.dst∧e.after=afterOf o ∧
 ((∃S,(∀s∈S,s∈e.srd)∧StepOK P o S T H x H' e.rd e.wr ∧
  (o.guard=none∨∃j w d,o.guard=some (j,w)∧(ops[j]?).bind (·.dst)=some d∧d∈e.srd∧T.getD d .junk = .d (.bool w))) ∨
   (x = .tup []∧H'=H∧e.wr=[]∧∃j w d,o.guard=some (j,w)∧(ops[j]?).bind (·.dst)=some d∧d∈e.srd∧noGo (T.getD d .junk) w))

theorem o_51 {P:Program} {draw:Bool} {ops:Array Oper} {o:Oper} {T:List V} {H:List (Option Ob)} {K:V→List (Option Ob)→List Nat→List Nat→Prop} (h:(resolveA P draw ops o).step P T H K) (hnx:draw=false→isNx o=false):∃x H' rd wr,K x H' rd wr∧StepOK P o (resolveA P draw ops o).slots T H x H' rd wr:=by
 have hb:isNx o=false:=by
  cases draw with
  | false=>exact hnx rfl
  | true =>
   cases hb:isNx o with
   | false=>rfl
   | true=>simp [resolveA,hb,A.step] at h
 cases hc:cutA P ops o with
 | none =>
  have hr:resolveA P draw ops o=resolve P o:=by simp [resolveA,hb,hc]
  rw [hr] at h ⊢
  exact o_50 (fun x hx=>by simp [isNx,hx] at hb) h
 | some a =>
  have hr:resolveA P draw ops o=a:=by simp [resolveA,hb,hc]
  rw [hr] at h ⊢
  unfold cutA at hc
  split at hc
  ·rename_i t j hi ho
   split at hc
   ·split at hc
    ·rename_i e hu
     rw [Option.map_eq_some_iff] at hc
     obtain ⟨i,hi',rfl⟩:=hc
     simp only [A.step,need] at h
     split at h
     ·rename_i n s' q kd b hx hb
      split at h
      ·rename_i ob hn
       obtain ⟨⟨rfl,h1,h2,h3⟩,h⟩:=h
       obtain ⟨b',rfl⟩:∃b':Nat,b=(b':Int):=⟨b.toNat,by omega⟩
       rw [Int.toNat_natCast] at h
       exact ⟨_,_,_,_,h,o_4u t e (.tmp j) hi i n q b' kd ob ho hu hi' hx hb (by omega) hn h3⟩
      ·exact h.elim
     ·exact h.elim
    ·cases hc
   ·cases hc
  ·cases hc

theorem o_52 {P:Program} {draw:Bool} {K:List V→List (Option Ob)→Prop} {ops:Array Oper}:∀(os:List Oper) (tr:List E) (T:List V) (H:List (Option Ob)),vops P draw K (os.map (resolveQ P draw ops)) tr T H→(draw=false→∀o∈os,isNx o=false) →
  ∃(Ts:Nat→List V) (Hs:Nat→List (Option Ob)) (xs:Nat→V) (es:Nat→E),Ts 0=T∧Hs 0=H∧(∀i o,os[i]?=some o→StepI P ops o (Ts i) (Hs i) (xs i) (Hs (i+1)) (es i)∧Ts (i+1)=putT (Ts i) o.dst (xs i)) ∧
   (draw=true→okTrace (((List.range os.length).map es).reverse++tr)=true)∧K (Ts os.length) (Hs os.length)
 | [],tr,T,H,h,_=>by
  refine ⟨fun _=>T,fun _=>H,fun _=>.junk,fun _=>⟨[],none,[],[],[]⟩,rfl,rfl,by simp,fun hd=>?_,?_⟩
  ·subst hd;simpa [vops] using h.1
  ·cases draw
   ·simpa [vops] using h
   ·exact h.2
 | o::os,tr,T,H,h,hnx=>by
  have fin:∀(x:V) (H1:List (Option Ob)) (e:E),StepI P ops o T H x H1 e→vops P draw K (os.map (resolveQ P draw ops)) (e::tr) (putT T o.dst x) H1 →
    ∃(Ts:Nat→List V) (Hs:Nat→List (Option Ob)) (xs:Nat→V) (es:Nat→E),Ts 0=T∧Hs 0=H∧(∀i o',(o::os)[i]?=some o'→StepI P ops o' (Ts i) (Hs i) (xs i) (Hs (i+1)) (es i)∧Ts (i+1)=putT (Ts i) o'.dst (xs i)) ∧
     (draw=true→okTrace (((List.range (o::os).length).map es).reverse++tr)=true)∧K (Ts (o::os).length) (Hs (o::os).length):=by
   intro x H1 e hst hv
   obtain ⟨Ts,Hs,xs,es,h1,h2,h3,h4,h5⟩:=o_52 os _ _ _ hv (fun hd o ho=>hnx hd o (by simp [ho]))
   refine ⟨fun i=>match i with | 0=>T | i+1=>Ts i,fun i=>match i with | 0=>H | i+1=>Hs i,fun i=>match i with | 0=>x | i+1=>xs i,fun i=>match i with | 0=>e | i+1=>es i,rfl,rfl,?_,?_,h5⟩
   ·intro i o' ho
    cases i with
    | zero=>simp at ho;subst ho;exact ⟨by simpa [h2] using hst,by simpa using h1⟩
    | succ i=>exact h3 i o' (by simpa using ho)
   ·intro hd
    have:=h4 hd
    rw [List.length_cons,List.range_succ_eq_map,List.map_cons,List.reverse_cons,List.map_map]
    simpa [List.append_assoc,Function.comp_def] using this
  simp only [List.map_cons,vops] at h
  cases hg:o.guard with
  | none =>
   simp only [resolveQ,hg] at h
   obtain ⟨x,H1,rd,wr,h1,h2⟩:=o_51 h fun hd=>hnx hd o (by simp)
   exact fin x H1 _ ⟨rfl,rfl,.inl ⟨_,fun s hs=>hs,h2,.inl hg⟩⟩ h1
  | some jw =>
   obtain ⟨j,w⟩:=jw
   cases hb:isNx o with
   | true=>simp [resolveQ,hg,hb,A.step] at h
   | false =>
   have hne:∀x,o.op≠.next x false:=fun x hx=>by simp [isNx,hx] at hb
   cases hd:(ops[j]?).bind (·.dst) with
   | none=>simp [resolveQ,hg,hb,hd,A.step] at h
   | some d =>
    simp only [resolveQ,hg,hb,Bool.false_eq_true,if_false,hd] at h
    split at h
    ·rename_i b hb
     by_cases hbw:b=w
     ·subst hbw
      obtain ⟨x,H1,rd,wr,h1,h2⟩:=o_50 hne (h.1 rfl)
      exact fin x H1 _ ⟨rfl,rfl,.inl ⟨_,fun s hs=>by simp [hs],h2,.inr ⟨j,_,d,hg,hd,by simp,hb⟩⟩⟩ h1
     ·exact fin (.tup []) H _ ⟨rfl,rfl,.inr ⟨rfl,rfl,rfl,j,w,d,hg,hd,by simp,.inl ⟨b,hb,hbw⟩⟩⟩ (h.2 hbw)
    ·rename_i hb
     exact fin (.tup []) H _ ⟨rfl,rfl,.inr ⟨rfl,rfl,rfl,j,w,d,hg,hd,by simp,.inr hb⟩⟩ h
    ·exact h.elim
end
section
open Go.RowKit
structure SatF (m:Mem) (a:Act) (Tf:Nat→V) (hf:Nat→Option Ob):Prop where
 base:m.base
 slots:∀s,(Tf s).rep m (a.tmps.getD s undef)
 obj:∀n ob,hf n=some ob→m.obj n ob
 inj:∀n k b,(hf n).isSome=true→(hf k).isSome=true→m.ρ n=some b→m.ρ k=some b→n=k
 defers:a.defers=[]

theorem o_53 (a:Act) (d:Option Nat) (v:Value) (s:Nat):(a.put d v).tmps.getD s undef=if d=some s∧s<a.tmps.size then v else a.tmps.getD s undef:=by
 cases d with
 | none=>simp [Act.put]
 | some d =>
  simp only [Act.put,Option.some.injEq]
  by_cases e:d=s
  ·subst e
   by_cases h:d<a.tmps.size
   ·simp [h]
   ·simp [h]
  ·simp [e,Array.getElem?_setIfInBounds_ne e]
theorem o_54 (a:Act) (d:Option Nat) (v:Value):(a.put d v).tmps.size=a.tmps.size:=by cases d<;>simp [Act.put]
theorem o_55 (a:Act) (d:Option Nat) (v:Value):(a.put d v).defers=a.defers:=by cases d<;>simp [Act.put]

theorem stepF {P:Program} {o:Oper} {S:List Nat} {T:List V} {H:List (Option Ob)} {x:V} {H':List (Option Ob)} {rd wr:List Nat} (h:StepOK P o S T H x H' rd wr) {m:Mem} {a:Act} {Tf:Nat→V} {hf:Nat→Option Ob} (sat:SatF m a Tf hf)
  (hS:∀s∈S,Tf s=T.getD s .junk) (hrd:∀n,n∈rd∨n∈wr→hf n=H.getD n none) (hun:∀n∈wr,H.length≤n→m.ρ n=none) (Tf':Nat→V) (hf':Nat→Option Ob)
  (hT':∀s,Tf' s=if o.dst=some s∧s<a.tmps.size then x else Tf s) (hh':∀n,hf' n=if n∈wr then H'.getD n none else hf n) (K:Act→World→Prop) (Q:Exit→Act→World→Prop)
  (hK:∀v m',SatF m' (a.put o.dst v) Tf' hf'→m.le m' (·∈wr)→(∀n,n∉wr→m'.ρ n=m.ρ n)→K (a.put o.dst v) m'.w):o.wp P a m.w K Q:=by
 have hlv:∀n,n∈wr→(live H n↔(hf n).isSome=true):=fun n hn=>by rw [live,hrd n (.inr hn)]
 have hsome:∀n,(hf n).isSome=true→∃b,m.ρ n=some b:=fun n hn=>by
  obtain ⟨ob,ho⟩:=Option.isSome_iff_exists.1 hn
  obtain ⟨b,_,_,h1,_⟩:=sat.obj n ob ho
  exact ⟨b,h1⟩
 refine h.run m a sat.base (fun s hs=>by rw [←hS s hs];exact sat.slots s) (fun n hn ob ho=>sat.obj n ob (by rw [hrd n hn];exact ho)) hun (fun n hn k hk ln lk he=>?_) K Q fun v m' hp=>hK v m' ?_ hp.le hp.keep
 ·have l1:=(hlv n hn).1 ln
  obtain ⟨b,hb⟩:=hsome n l1
  exact sat.inj n k b l1 ((hlv k hk).1 lk) hb (he▸hb)
 ·obtain ⟨hb,hle,hrep,hobj,hkeep,hat,hinj⟩:=hp
  have hblk:∀n b,n∉wr→(hf n).isSome=true→m.ρ n=some b→∀k,k∈wr→m.ρ k≠some b:=fun n b hn ln hb k hk he=>by
   rcases h.wlive k hk with lk | lk
   ·exact hn (sat.inj n k b ln ((hlv k hk).1 lk) hb he▸hk)
   ·rw [hun k hk lk] at he;cases he
  refine ⟨hb,fun s=>?_,fun n ob ho=>?_,fun n k b ln lk h1 h2=>?_,by rw [o_55];exact sat.defers⟩
  ·rw [hT',o_53]
   split
   ·exact hrep
   ·exact V.rep_mono hle _ _ (sat.slots s)
  ·rw [hh'] at ho
   split at ho
   ·rename_i hn;exact hobj n hn ob ho
   ·rename_i hn
    refine Mem.obj_keep sat.base hle (fun k b hk hb=>?_) (sat.obj n ob ho)
    exact hblk n b hn (by rw [ho];rfl) hb k hk
  ·rw [hh'] at ln lk
   have far:∀n k b,n∈wr→k∉wr→live H' n→(hf k).isSome=true→m'.ρ n=some b→m'.ρ k=some b→False:=fun n k b hn hk ln lk h1 h2=>by
    obtain ⟨b',e1,e2⟩:=hat n hn ln
    rw [h1] at e1;cases e1
    rw [hkeep k hk] at h2
    rcases e2 with e2 | ⟨j,hj,_,e2⟩
    ·have:=sat.base.dom k b h2;omega
    ·exact hblk k b hk lk h2 j hj e2
   split at ln<;>split at lk
   ·rename_i hn hk;exact hinj n hn k hk ln lk (by rw [h1,h2])
   ·rename_i hn hk;exact (far n k b hn hk ln lk h1 h2).elim
   ·rename_i hn hk;exact (far k n b hk hn lk ln h2 h1).elim
   ·rename_i hn hk
    rw [hkeep n hn] at h1
    rw [hkeep k hk] at h2
    exact sat.inj n k b ln lk h1 h2

theorem o_56 (T:List V) (d:Option Nat) (x:V) (s:Nat):(putT T d x).getD s .junk=if d=some s∧s<T.length then x else T.getD s .junk:=by
 cases d with
 | none=>simp [putT]
 | some d =>
  simp only [putT,Option.some.injEq,List.getD_eq_getElem?_getD,List.getElem?_set]
  by_cases e:d=s
  ·subst e
   by_cases h:d<T.length
   ·simp [h]
   ·simp [h]
  ·simp [e]
theorem o_57 (T:List V) (d:Option Nat) (x:V):(putT T d x).length=T.length:=by cases d<;>simp [putT]

theorem Sat.toF {m:Mem} {a:Act} {T:List V} {H:List (Option Ob)} (h:Sat m a T H):SatF m a (fun s=>T.getD s .junk) (fun n=>H.getD n none) :=
 ⟨h.base,h.slots,h.obj,h.inj,h.defers⟩

theorem o_58 {ops:Array Oper} {o:Oper} {a:Act} {m:Mem} {x:V} {j d:Nat} {w b:Bool} (hg:o.guard=some (j,w)) (hd:(ops[j]?).bind (·.dst)=some d) (hx:x = .d (.bool b)) (hr:x.rep m (a.tmps.getD d undef)) :
  Region.wanted o (yielded ops a.tmps)=(b==w):=by
 subst hx
 have hv:=V.rep_bool.1 hr
 have:a.tmps[d]?=some (.bool b):=by
  rw [Array.getD_eq_getD_getElem?] at hv
  cases h:a.tmps[d]? with
  | none=>rw [h] at hv;cases hv
  | some u=>rw [h] at hv;simp at hv;rw [hv]
 simp [Region.wanted,hg,yielded,hd,this]

theorem o_59 {ops:Array Oper} {o:Oper} {a:Act} {m:Mem} {x:V} {j d:Nat} {w:Bool} (hg:o.guard=some (j,w)) (hd:(ops[j]?).bind (·.dst)=some d) (hx:noGo x w) (hr:x.rep m (a.tmps.getD d undef)) :
  Region.wanted o (yielded ops a.tmps)=false:=by
 rcases hx with ⟨b,hx,hne⟩ | rfl
 ·rw [o_58 hg hd hx hr];simpa using hne
 ·unfold V.rep at hr
  obtain ⟨vs,hv,hl⟩:=hr
  simp at hl
  subst hl
  rw [Array.getD_eq_getD_getElem?] at hv
  cases h:a.tmps[d]? with
  | none=>simp [Region.wanted,hg,yielded,hd,h]
  | some u=>rw [h] at hv;simp at hv;simp [Region.wanted,hg,yielded,hd,h,hv]

theorem o_5a {ops:Array Oper} {o:Oper} {a:Act} (hg:o.guard=none):Region.wanted o (yielded ops a.tmps)=true:=by simp [Region.wanted,hg]

theorem o_5b {P:Program} {ops:Array Oper} {o:Oper} {T:List V} {H:List (Option Ob)} {x:V} {H':List (Option Ob)} {e:E} (h:StepI P ops o T H x H' e) {m:Mem} {a:Act} (sat:Sat m a T H) (K:Act→World→Prop) (Q:Exit→Act→World→Prop)
  (hK:∀v m',Sat m' (a.put o.dst v) (putT T o.dst x) H'→m.le m' (· < H.length)→K (a.put o.dst v) m'.w) :
  if Region.wanted o (yielded ops a.tmps) then o.wp P a m.w K Q else K (a.put o.dst undef) m.w:=by
 obtain ⟨e1,e2,⟨S,hS,hok,hg⟩ | ⟨rfl,rfl,hwr,j,w,d,hg,hd,hds,hT⟩⟩:=h
 ·have hw:Region.wanted o (yielded ops a.tmps)=true:=by
   rcases hg with hg | ⟨j,w,d,hg,hd,_,hT⟩
   ·exact o_5a hg
   ·rw [o_58 hg hd hT (sat.slots d)];simp
  rw [if_pos hw]
  refine stepF hok sat.toF (fun _ _=>rfl) (fun _ _=>rfl) (fun n _ hn=>sat.top n hn) (fun s=>(putT T o.dst x).getD s .junk) (fun n=>H'.getD n none) (fun s=>by rw [o_56,sat.size]) (fun n=>?_) K Q fun v m' hs hle hk=>hK v m' ?_ ?_
  ·split
   ·rfl
   ·exact hok.same n ‹_›
  ·refine ⟨hs.base,hs.slots,hs.obj,hs.inj,fun n hn=>?_,by rw [o_54,o_57];exact sat.size,hs.defers⟩
   have hn':n∉e.wr:=fun hc=>by have:=hok.lt n hc;omega
   rw [hk n hn']
   exact sat.top n (Nat.le_trans hok.len hn)
  ·refine hle.mono fun n b hb hn=>?_
   rcases Nat.lt_or_ge n H.length with h | h
   ·exact h
   ·rw [sat.top n h] at hb;cases hb
 ·have hw:Region.wanted o (yielded ops a.tmps)=false:=o_59 hg hd hT (sat.slots d)
  rw [hw]
  simp only [Bool.false_eq_true,if_false]
  refine hK undef m ⟨sat.base,fun s=>?_,sat.obj,sat.inj,sat.top,by rw [o_54,o_57];exact sat.size,by rw [o_55];exact sat.defers⟩ (Mem.le.refl _ _)
  rw [o_56,o_53,sat.size]
  split
  ·unfold V.rep;exact ⟨[],rfl,by simp⟩
  ·exact sat.slots s

def AWp (P:Program) (c:Code) (Q:Exit→List V→List (Option Ob)→Prop) (T:List V) (H:List (Option Ob)):Prop :=
 ∀m a,Sat m a T H→c.wp P (fun e a' w'=>∃T' H' m',m'.w=w'∧Q e T' H'∧Sat m' a' T' H'∧m.le m' (· < H.length)∧H.length≤H'.length) a m.w
end
section
open Go.RowKit
def rev (es:Nat→E) (n:Nat):List E:=((List.range n).map es).reverse
theorem o_5c (es:Nat→E) (n:Nat):rev es (n+1)=es n::rev es n:=by simp [rev,List.range_succ]
theorem o_5d (es:Nat→E) (n:Nat):(rev es n).length=n:=by simp [rev]
theorem o_5e (es:Nat→E) (d:E):∀(n t:Nat),t<n→(rev es n).getD (n-1-t) d=es t
 | 0,t,h=>by omega
 | n+1,t,h=>by
  rw [o_5c]
  rcases Nat.lt_or_ge t n with hlt | hge
  ·rw [show n+1-1-t=(n-1-t)+1 by omega,List.getD_cons_succ]
   exact o_5e es d n t hlt
  ·rw [show t=n by omega,show n+1-1-n=0 by omega];rfl

def anc (es:Nat→E) (i:Nat):List Nat:=(ancs (rev es (i+1))).headD []
theorem o_5f (es:Nat→E):∀(n j:Nat),j<n→(ancs (rev es n)).getD (n-1-j) []=anc es j
 | 0,j,h=>by omega
 | n+1,j,h=>by
  rcases Nat.lt_or_ge j n with hlt | hge
  ·rw [o_5c,ancs,show n+1-1-j=(n-1-j)+1 by omega,List.getD_cons_succ]
   exact o_5f es n j hlt
  ·rw [show j=n by omega,show n+1-1-n=0 by omega,anc]
   rw [o_5c,ancs];rfl

theorem o_5g {es:Nat→E}:∀(n:Nat),okTrace (rev es n)=true→∀i,i<n→(∀j∈(es i).after,j<i)∧∀k,k<i→(es k).clash (es i)=true→k∈anc es i
 | 0,_,i,h=>by omega
 | n+1,h,i,hi=>by
  rw [o_5c,okTrace] at h
  simp only [Bool.and_eq_true,o_5d] at h
  obtain ⟨⟨h1,h2⟩,h3⟩:=h
  rcases Nat.lt_or_ge i n with hlt | hge
  ·exact o_5g n h3 i hlt
  ·obtain rfl:i=n:=by omega
   refine ⟨fun j hj=>by simpa using List.all_eq_true.1 h1 j hj,fun k hk hc=>?_⟩
   have:=List.all_eq_true.1 h2 (i-1-k) (by rw [List.mem_range];omega)
   rw [o_5e es _ i k hk,hc] at this
   simp only [Bool.not_true,Bool.false_or] at this
   rw [show i-1-(i-1-k)=k by omega] at this
   rw [anc,o_5c]
   simpa using this

theorem o_5h {es:Nat→E} {n:Nat} (hlt:∀i,i<n→∀j∈(es i).after,j<i) {S:Nat→Prop} (hS:∀t,t<n→S t→∀j∈(es t).after,S j):∀i,i<n→(∀j∈(es i).after,S j)→∀k∈anc es i,S k:=by
 intro i
 induction i using Nat.strongRecOn with
 | _ i ih =>
  intro hi ha k hk
  rw [anc,o_5c,ancs,List.headD_cons,List.mem_eraseDups,List.mem_flatMap] at hk
  obtain ⟨j,hj,hk⟩:=hk
  have hji:=hlt i hi j hj
  rw [o_5d,o_5f es i j hji] at hk
  rcases List.mem_cons.1 hk with rfl | hk
  ·exact ha k hj
  ·exact ih j hji (by omega) (hS j (by omega) (ha j hj)) k hk

def hold {α:Type} (init:α) (wr:Nat→Option α) (S:Nat→Bool):Nat→α
 | 0=>init
 | i+1=>match (if S i then wr i else none) with
  | some x=>x
  | none=>hold init wr S i

section
variable {α:Type} {init:α} {wr:Nat→Option α} {S:Nat→Bool}
theorem o_5i (i n:Nat) (hin:i≤n) (h1:∀j,j<i→(wr j).isSome=true→S j=true) (h2:∀j,i≤j→j<n→(wr j).isSome=true→S j=false):hold init wr S n=hold init wr (fun _=>true) i:=by
 induction n with
 | zero =>
  obtain rfl:i=0:=by omega
  rfl
 | succ n ih =>
  rcases Nat.lt_or_ge i (n+1) with hlt | hge
  ·rw [hold]
   have:(if S n then wr n else none)=none:=by
    cases hw:wr n with
    | none=>simp
    | some x=>rw [h2 n (by omega) (by omega) (by rw [hw];rfl)];rfl
   rw [this]
   exact ih (by omega) fun j hj hjn=>h2 j hj (by omega)
  ·obtain rfl:i=n+1:=by omega
   clear ih h2
   have key:∀k,k≤n+1→hold init wr S k=hold init wr (fun _=>true) k:=by
    intro k
    induction k with
    | zero=>intro _;rfl
    | succ k ih =>
     intro hk
     rw [hold,hold,ih (by omega)]
     cases hw:wr k with
     | none=>simp
     | some x=>rw [h1 k (by omega) (by rw [hw];rfl)]
   exact key _ (Nat.le_refl _)
theorem o_5j (i n:Nat) (hi:i<n) (hS:S i=false) (h2:∀j,i<j→j<n→(wr j).isSome=true→(wr i).isSome=true→S j=false):hold init wr (fun j=>S j || j==i) n=match wr i with
  | some x=>x
  | none=>hold init wr S n:=by
 induction n with
 | zero=>omega
 | succ n ih =>
  rw [hold]
  rcases Nat.lt_or_ge i n with hlt | hge
  ·have hne:(n==i)=false:=by simp;omega
   simp only [hne,Bool.or_false]
   cases hw:wr i with
   | none =>
    rw [hw] at ih
    simp only at ih ⊢
    rw [hold,ih hlt fun j a b c d=>by cases d]
   | some x =>
    rw [hw] at ih h2
    have:(if S n then wr n else none)=none:=by
     cases hw':wr n with
     | none=>simp
     | some y=>rw [h2 n hlt (by omega) (by rw [hw'];rfl) rfl];rfl
    rw [this]
    exact ih hlt fun j a b c d=>h2 j a (by omega) c d
  ·obtain rfl:i=n:=by omega
   simp only [beq_self_eq_true,Bool.or_true,if_true]
   cases hw:wr i with
   | some x=>rfl
   | none =>
    simp only
    rw [hold,hS]
    simp only [Bool.false_eq_true,if_false]
    have key:∀k,k≤i→hold init wr (fun j=>S j || j==i) k=hold init wr S k:=by
     intro k
     induction k with
     | zero=>intro _;rfl
     | succ k ih =>
      intro hk
      have:(k==i)=false:=by simp;omega
      rw [hold,hold,ih (by omega),this,Bool.or_false]
    exact key _ (Nat.le_refl _)
end
end
section
open Go.RowKit
def cnt (S:Nat→Bool):Nat→Nat
 | 0=>0
 | k+1=>(if S k then 0 else 1)+cnt S k
theorem o_5k {S:Nat→Bool} {i:Nat} (hS:S i=false):∀n,i<n→cnt (fun j=>S j || j==i) n+1=cnt S n
 | 0,h=>by omega
 | n+1,h=>by
  rw [cnt,cnt]
  rcases Nat.lt_or_ge i n with hlt | hge
  ·have:(n==i)=false:=by simp;omega
   rw [this,Bool.or_false,←o_5k hS n hlt];omega
  ·obtain rfl:i=n:=by omega
   have key:∀k,k≤i→cnt (fun j=>S j || j==i) k=cnt S k:=by
    intro k
    induction k with
    | zero=>intro _;rfl
    | succ k ih =>
     intro hk
     have:(k==i)=false:=by simp;omega
     rw [cnt,cnt,ih (by omega),this,Bool.or_false]
   rw [key i (Nat.le_refl _),hS];simp;omega
theorem o_5l {S:Nat→Bool}:∀n,cnt S n=0→∀j,j<n→S j=true
 | 0,_,j,h=>by omega
 | n+1,h,j,hj=>by
  rw [cnt] at h
  rcases Nat.lt_or_ge j n with hlt | hge
  ·exact o_5l n (by omega) j hlt
  ·obtain rfl:j=n:=by omega
   by_cases hS:S j=true
   ·exact hS
   ·simp [hS] at h
theorem o_5m (S:Nat→Bool):∀n,cnt S n≤n
 | 0=>Nat.le_refl _
 | n+1=>by rw [cnt];have:=o_5m S n;split<;>omega

theorem o_5n {ops:Array Oper} {listed:Array Bool} {i:Nat} (h:i∈Region.ready .any ops listed):∃o,ops[i]?=some o∧listed.getD i true=false∧∀j∈afterOf o,listed.getD j false=true:=by
 unfold Region.ready at h
 rw [List.mem_filter,List.mem_range] at h
 obtain ⟨hi,h⟩:=h
 simp only [Bool.and_eq_true,Bool.not_eq_true'] at h
 obtain ⟨h1,h2⟩:=h
 refine ⟨ops[i],by simp [hi],h1,fun j hj=>?_⟩
 rw [Array.getElem?_eq_getElem hi] at h2
 simp only [Option.map_some,Option.getD_some,Array.all_eq_true_iff_forall_mem] at h2
 unfold afterOf at hj
 rw [List.mem_filterMap] at hj
 obtain ⟨e,he,hj⟩:=hj
 split at hj
 ·rename_i hb
  cases hj
  have:=h2 e (by simpa using he)
  simpa [hb] using this
 ·cases hj
theorem o_5o {ops:Array Oper} {listed:Array Bool} {i:Nat} {o:Oper} (ho:ops[i]?=some o) (h1:listed.getD i true=false) (h2:∀j∈afterOf o,listed.getD j false=true):i∈Region.ready .any ops listed:=by
 unfold Region.ready
 rw [List.mem_filter,List.mem_range]
 have hi:i<ops.size:=(Array.getElem?_eq_some_iff.1 ho).1
 refine ⟨hi,?_⟩
 simp only [Bool.and_eq_true,Bool.not_eq_true',ho,Option.map_some,Option.getD_some,Array.all_eq_true_iff_forall_mem]
 refine ⟨h1,fun e he=>?_⟩
 by_cases hb:Region.binds .any e=true
 ·have:=h2 e.on (by unfold afterOf;rw [List.mem_filterMap];exact ⟨e,by simpa using he,by simp [hb]⟩)
  simp only [Array.getD_eq_getD_getElem?] at this ⊢
  simp [this]
 ·simp [hb]

theorem o_5p {i j:E} {k:Nat} (h:k∈i.wr) (h':k∈j.rd∨k∈j.wr):i.clash j=true:=by
 unfold E.clash
 rw [Bool.or_eq_true,Bool.or_eq_true]
 exact .inl (.inr (List.any_eq_true.2 ⟨k,h,by simpa using h'⟩))
theorem o_5q {i j:E} {k:Nat} (h:k∈i.rd) (h':k∈j.wr):i.clash j=true:=by
 unfold E.clash
 rw [Bool.or_eq_true]
 exact .inr (List.any_eq_true.2 ⟨k,h',by simpa using h⟩)
theorem o_5r {i j:E} {s:Nat} (h:i.dst=some s) (h':s∈j.srd∨j.dst=some s):i.clash j=true:=by
 unfold E.clash
 rw [Bool.or_eq_true,Bool.or_eq_true,Bool.or_eq_true]
 refine .inl (.inl (.inl ?_))
 rw [h]
 simpa using h'
theorem o_5s {i j:E} {s:Nat} (h:s∈i.srd) (h':j.dst=some s):i.clash j=true:=by
 unfold E.clash
 rw [Bool.or_eq_true,Bool.or_eq_true,Bool.or_eq_true]
 refine .inl (.inl (.inr ?_))
 rw [h']
 simpa using h

section
variable {P:Program} {ops:Array Oper} {Q:Exit→Act→World→Prop} {Ts:Nat→List V} {Hs:Nat→List (Option Ob)} {xs:Nat→V} {es:Nat→E}

def wrT (Ts:Nat→List V) (xs:Nat→V) (es:Nat→E) (s:Nat) (i:Nat):Option V:=if (es i).dst=some s∧s<(Ts 0).length then some (xs i) else none
def wrH (Hs:Nat→List (Option Ob)) (es:Nat→E) (k:Nat) (i:Nat):Option (Option Ob):=if k∈(es i).wr then some ((Hs (i+1)).getD k none) else none
def Tf (Ts:Nat→List V) (xs:Nat→V) (es:Nat→E) (S:Nat→Bool) (n s:Nat):V:=hold ((Ts 0).getD s .junk) (wrT Ts xs es s) S n
def Hf (Hs:Nat→List (Option Ob)) (es:Nat→E) (S:Nat→Bool) (n k:Nat):Option Ob:=hold ((Hs 0).getD k none) (wrH Hs es k) S n

variable (hst:∀i o,ops[i]?=some o→StepI P ops o (Ts i) (Hs i) (xs i) (Hs (i+1)) (es i)∧Ts (i+1)=putT (Ts i) o.dst (xs i))
 include hst

theorem o_5t:∀i,i≤ops.size→(Ts i).length=(Ts 0).length
 | 0,_=>rfl
 | i+1,h=>by
  rw [(hst i ops[i] (by simp [show i<ops.size by omega])).2,o_57]
  exact o_5t i (by omega)
theorem o_5u (s:Nat):∀i,i≤ops.size→hold ((Ts 0).getD s .junk) (wrT Ts xs es s) (fun _=>true) i=(Ts i).getD s .junk
 | 0,_=>rfl
 | i+1,h=>by
  have ho:ops[i]?=some ops[i]:=by simp [show i<ops.size by omega]
  obtain ⟨h1,h2⟩:=hst i _ ho
  rw [hold,h2,o_56,o_5t hst i (by omega),o_5u s i (by omega),if_pos rfl]
  unfold wrT
  rw [h1.1]
  by_cases hc:ops[i].dst=some s∧s<(Ts 0).length
  ·simp only [if_pos hc]
  ·simp only [if_neg hc]
theorem o_5v (k:Nat):∀i,i≤ops.size→hold ((Hs 0).getD k none) (wrH Hs es k) (fun _=>true) i=(Hs i).getD k none
 | 0,_=>rfl
 | i+1,h=>by
  have ho:ops[i]?=some ops[i]:=by simp [show i<ops.size by omega]
  obtain ⟨h1,h2⟩:=hst i _ ho
  rw [hold,o_5v k i (by omega),if_pos rfl]
  unfold wrH
  by_cases hk:k∈(es i).wr
  ·simp [hk]
  ·simp only [hk,if_false]
   obtain ⟨_,_,⟨S,_,hok,_⟩ | ⟨_,he,_⟩⟩:=h1
   ·exact (hok.same k hk).symm
   ·rw [he]
theorem o_5w:∀i j,i≤j→j≤ops.size→(Hs i).length≤(Hs j).length
 | i,0,h,_=>by rw [show i=0 by omega];exact Nat.le_refl _
 | i,j+1,h,hj=>by
  rcases Nat.lt_or_ge i (j+1) with hlt | hge
  ·have ho:ops[j]?=some ops[j]:=by simp [show j<ops.size by omega]
   refine Nat.le_trans (o_5w i j (by omega) (by omega)) ?_
   obtain ⟨_,_,⟨S,_,hok,_⟩ | ⟨_,he,_⟩⟩:=(hst j _ ho).1
   ·exact hok.len
   ·rw [he];exact Nat.le_refl _
  ·rw [show i=j+1 by omega];exact Nat.le_refl _

structure Mid (ops:Array Oper) (Ts:Nat→List V) (Hs:Nat→List (Option Ob)) (xs:Nat→V) (es:Nat→E) (m0:Mem) (listed:Array Bool) (a:Act) (m:Mem):Prop where
 len:listed.size=ops.size
 closed:∀t,t<ops.size→listed.getD t false=true→∀j∈(es t).after,listed.getD j false=true
 sat:SatF m a (Tf Ts xs es (fun j=>listed.getD j false) ops.size) (Hf Hs es (fun j=>listed.getD j false) ops.size)
 le:m0.le m (· < (Hs 0).length)
 size:a.tmps.size=(Ts 0).length
 born:∀k b,m.ρ k=some b→k<(Hs 0).length∨∃i,i<ops.size∧listed.getD i false=true∧k∈(es i).wr

theorem o_5x (htr:okTrace (rev es ops.size)=true) {m0:Mem} (htop:∀n,(Hs 0).length≤n→m0.ρ n=none)
  (hQ:∀a m,Sat m a (Ts ops.size) (Hs ops.size)→m0.le m (· < (Hs 0).length)→Q .normal a m.w) :
  ∀(fuel:Nat) (listed:Array Bool) (a:Act) (m:Mem),Mid ops Ts Hs xs es m0 listed a m→cnt (fun j=>listed.getD j false) ops.size≤fuel→wpAny P .any ops Q fuel listed a m.w:=by
 have hspec:=o_5g ops.size htr
 have hlt:=fun i hi=>(hspec i hi).1
 have all_done:∀(listed:Array Bool),listed.size=ops.size→Region.ready .any ops listed=[]→∀i,i<ops.size→listed.getD i false=true:=by
  intro listed hlen hr i
  induction i using Nat.strongRecOn with
  | _ i ih =>
   intro hi
   cases hb:listed.getD i false with
   | true=>rfl
   | false =>
    exfalso
    have ho:ops[i]?=some ops[i]:=by simp [hi]
    have h2:=(hst i _ ho).1.2.1
    have:i∈Region.ready .any ops listed:=o_5o ho (by
     simp only [Array.getD_eq_getD_getElem?] at hb ⊢
     rw [Array.getElem?_eq_getElem (by omega)] at hb ⊢
     simpa using hb) fun j hj=>by
     rw [←h2] at hj
     have:=hlt i hi j hj
     exact ih j this (by omega)
    rw [hr] at this
    simp at this
 have finish:∀(listed:Array Bool) (a:Act) (m:Mem),Mid ops Ts Hs xs es m0 listed a m→(∀i,i<ops.size→listed.getD i false=true)→Q .normal a m.w:=by
  intro listed a m hm hall
  have e1:∀s,Tf Ts xs es (fun j=>listed.getD j false) ops.size s=(Ts ops.size).getD s .junk:=fun s=>by
   rw [Tf,o_5i ops.size ops.size (Nat.le_refl _) (fun j hj _=>hall j hj) (fun j h1 h2=>by omega)]
   exact o_5u hst s _ (Nat.le_refl _)
  have e2:∀k,Hf Hs es (fun j=>listed.getD j false) ops.size k=(Hs ops.size).getD k none:=fun k=>by
   rw [Hf,o_5i ops.size ops.size (Nat.le_refl _) (fun j hj _=>hall j hj) (fun j h1 h2=>by omega)]
   exact o_5v hst k _ (Nat.le_refl _)
  refine hQ a m ⟨hm.sat.base,fun s=>by rw [←e1];exact hm.sat.slots s,fun n ob h=>hm.sat.obj n ob (by rw [e2];exact h),fun n k b h1 h2=>hm.sat.inj n k b (by rw [e2];exact h1) (by rw [e2];exact h2),fun n hn=>?_,by rw [hm.size,o_5t hst _ (Nat.le_refl _)],hm.sat.defers⟩ hm.le
  cases hb:m.ρ n with
  | none=>rfl
  | some b =>
   exfalso
   rcases hm.born n b hb with h | ⟨i,hi,_,hw⟩
   ·have:=o_5w hst 0 ops.size (Nat.zero_le _) (Nat.le_refl _);omega
   ·have ho:ops[i]?=some ops[i]:=by simp [hi]
    obtain ⟨_,_,⟨S,_,hok,_⟩ | ⟨_,_,he,_⟩⟩:=(hst i _ ho).1
    ·have:=hok.lt n hw
     have:=o_5w hst (i+1) ops.size (by omega) (Nat.le_refl _)
     omega
    ·rw [he] at hw;simp at hw
 intro fuel
 induction fuel with
 | zero =>
  intro listed a m hm hc
  have hall:=o_5l _ (Nat.le_zero.1 hc)
  refine ⟨?_,finish listed a m hm hall⟩
  rw [List.eq_nil_iff_forall_not_mem]
  intro i hi
  obtain ⟨o,ho,h1,_⟩:=o_5n hi
  have hi':i<ops.size:=(Array.getElem?_eq_some_iff.1 ho).1
  have:=hall i hi'
  have hls:=hm.len
  simp only [Array.getD_eq_getD_getElem?] at this h1
  rw [Array.getElem?_eq_getElem (by omega)] at this h1
  simp at this h1
  rw [this] at h1;cases h1
 | succ fuel ih =>
  intro listed a m hm hc
  refine ⟨fun hr=>finish listed a m hm (all_done listed hm.len hr),fun i hi=>?_⟩
  obtain ⟨o,ho,h1,h2⟩:=o_5n hi
  have hi':i<ops.size:=(Array.getElem?_eq_some_iff.1 ho).1
  have hls:=hm.len
  have hSi:listed.getD i false=false:=by
   simp only [Array.getD_eq_getD_getElem?] at h1 ⊢
   rw [Array.getElem?_eq_getElem (by omega)] at h1 ⊢
   simpa using h1
  obtain ⟨hstep,hput⟩:=hst i o ho
  have hanc:=o_5h hlt (S:=fun j=>listed.getD j false=true) hm.closed i hi' (by rw [hstep.2.1];exact h2)
  -- what clashes with i is in order
  have before:∀j,j<i→(es j).clash (es i)=true→listed.getD j false=true:=fun j hj hcl=>hanc j ((hspec i hi').2 j hj hcl)
  have behind:∀j,i<j→j<ops.size→(es i).clash (es j)=true→listed.getD j false=false:=fun j hj hjn hcl=>by
   cases hb:listed.getD j false with
   | false=>rfl
   | true =>
    have:=o_5h hlt (S:=fun j=>listed.getD j false=true) hm.closed j hjn (hm.closed j hjn hb) i ((hspec j hjn).2 i hj hcl)
    rw [hSi] at this;cases this
  have hsat:=hm.sat
  generalize hSdef:(fun j=>listed.getD j false)=S at *
  have hS:∀j,S j=listed.getD j false:=fun j=>by rw [←hSdef]
  have hTi:∀s,s∈(es i).srd∨(es i).dst=some s→Tf Ts xs es S ops.size s=(Ts i).getD s .junk:=fun s hs=>by
   rw [Tf,o_5i i ops.size (by omega),o_5u hst s i (by omega)]
   ·intro j hj hw
    rw [hS]
    refine before j hj ?_
    unfold wrT at hw
    split at hw
    ·rename_i hd;exact o_5r hd.1 hs
    ·cases hw
   ·intro j hj hjn hw
    rw [hS]
    rcases Nat.lt_or_ge i j with hij | hij
    ·refine behind j hij hjn ?_
     unfold wrT at hw
     split at hw
     ·rename_i hd
      rcases hs with hs | hs
      ·exact o_5s hs hd.1
      ·exact o_5r hs (.inr hd.1)
     ·cases hw
    ·rw [show j=i by omega];exact hSi
  have hHi:∀k,k∈(es i).rd∨k∈(es i).wr→Hf Hs es S ops.size k=(Hs i).getD k none:=fun k hk=>by
   rw [Hf,o_5i i ops.size (by omega),o_5v hst k i (by omega)]
   ·intro j hj hw
    rw [hS]
    refine before j hj ?_
    unfold wrH at hw
    split at hw
    ·rename_i hd;exact o_5p hd hk
    ·cases hw
   ·intro j hj hjn hw
    rw [hS]
    rcases Nat.lt_or_ge i j with hij | hij
    ·refine behind j hij hjn ?_
     unfold wrH at hw
     split at hw
     ·rename_i hd
      rcases hk with hk | hk
      ·exact o_5q hk hd
      ·exact o_5p hk (.inr hd)
     ·cases hw
    ·rw [show j=i by omega];exact hSi
  have hset:∀j,(listed.setIfInBounds i true).getD j false=(S j || j==i):=fun j=>by
   simp only [hS,Array.getD_eq_getD_getElem?,Array.getElem?_setIfInBounds]
   by_cases e:i=j
   ·subst e
    simp [show i<listed.size by omega]
   ·simp [e,show ¬j=i by omega]
  have hset':(fun j=>(listed.setIfInBounds i true).getD j false)=fun j=>S j || j==i:=funext hset
  have hcnt:cnt (fun j=>(listed.setIfInBounds i true).getD j false) ops.size≤fuel:=by
   rw [hset']
   have:=o_5k (S:=S) (i:=i) (by rw [hS];exact hSi) ops.size hi'
   omega
  have hclosed:∀t,t<ops.size→(listed.setIfInBounds i true).getD t false=true→∀j∈(es t).after,(listed.setIfInBounds i true).getD j false=true:=by
   intro t ht h j hj
   rw [hset] at h ⊢
   simp only [Bool.or_eq_true,beq_iff_eq] at h ⊢
   rcases h with h | rfl
   ·exact .inl (by rw [hS] at h ⊢;exact hm.closed t ht h j hj)
   ·rw [hstep.2.1] at hj
    exact .inl (by rw [hS];exact h2 j hj)
  -- how the places turn
  have hT':∀s,Tf Ts xs es (fun j=>S j || j==i) ops.size s=if o.dst=some s∧s<a.tmps.size then xs i else Tf Ts xs es S ops.size s:=fun s=>by
   rw [Tf,o_5j i ops.size hi' (by rw [hS];exact hSi)]
   ·rw [hm.size]
    unfold wrT
    rw [hstep.1]
    split
    ·rename_i x hx
     split at hx
     ·rename_i hc;rw [if_pos hc];cases hx;rfl
     ·cases hx
    ·rename_i hx
     split at hx
     ·cases hx
     ·rename_i hc;rw [if_neg hc];rfl
   ·intro j hj hjn hw hwi
    rw [hS]
    refine behind j hj hjn ?_
    unfold wrT at hw hwi
    split at hw
    ·rename_i hd
     split at hwi
     ·rename_i hd';exact o_5r hd'.1 (.inr hd.1)
     ·cases hwi
    ·cases hw
  have hH':∀k,Hf Hs es (fun j=>S j || j==i) ops.size k=if k∈(es i).wr then (Hs (i+1)).getD k none else Hf Hs es S ops.size k:=fun k=>by
   rw [Hf,o_5j i ops.size hi' (by rw [hS];exact hSi)]
   ·unfold wrH
    split
    ·rename_i x hx
     split at hx
     ·rename_i hc;rw [if_pos hc];cases hx;rfl
     ·cases hx
    ·rename_i hx
     split at hx
     ·cases hx
     ·rename_i hc;rw [if_neg hc];rfl
   ·intro j hj hjn hw hwi
    rw [hS]
    refine behind j hj hjn ?_
    unfold wrH at hw hwi
    split at hw
    ·rename_i hd
     split at hwi
     ·rename_i hd';exact o_5p hd' (.inr hd)
     ·cases hwi
    ·cases hw
  unfold wpOp
  rw [ho]
  simp only
  have hgd:∀j w d b,o.guard=some (j,w)→(ops[j]?).bind (·.dst)=some d→d∈(es i).srd→(Ts i).getD d .junk = .d (.bool b)→Region.wanted o (yielded ops a.tmps)=(b==w):=fun j w d b hg hd hds hT =>
   o_58 hg hd (by rw [←hT];exact hTi d (.inl hds)) (hsat.slots d)
  obtain ⟨e1,e2,⟨S',hS',hok,hg⟩ | ⟨hx,hHH,hwr,j,w,d,hg,hd,hds,hT⟩⟩:=hstep
  ·have hw:Region.wanted o (yielded ops a.tmps)=true:=by
    rcases hg with hg | ⟨j,w,d,hg,hd,hds,hT⟩
    ·exact o_5a hg
    ·rw [hgd j w d w hg hd hds hT];simp
   rw [if_pos hw]
   refine .inl (stepF hok hsat (fun s hs=>hTi s (.inl (hS' s hs))) (fun n hn=>hHi n hn) (fun n hn hge=>?_) _ _ hT' hH' _ Q fun v m' hs hle hk=>?_)
   ·cases hb:m.ρ n with
    | none=>rfl
    | some b =>
     exfalso
     rcases hm.born n b hb with h | ⟨j,hj,hSj,hwj⟩
     ·have:=o_5w hst 0 i (Nat.zero_le _) (by omega);omega
     ·have hji:j≠i:=fun e=>by subst e;rw [hSi] at hSj;cases hSj
      rcases Nat.lt_or_ge j i with hlt' | hge'
      ·have hoj:ops[j]?=some ops[j]:=by simp [hj]
       obtain ⟨_,_,⟨S2,_,hok2,_⟩ | ⟨_,_,he,_⟩⟩:=(hst j _ hoj).1
       ·have:=hok2.lt n hwj
        have:=o_5w hst (j+1) i (by omega) (by omega)
        omega
       ·rw [he] at hwj;simp at hwj
      ·have hcl:(es i).clash (es j)=true:=o_5p hn (.inr hwj)
       rw [behind j (by omega) hj hcl] at hSj;cases hSj
   ·refine ih _ _ m' ⟨by simp [hls],hclosed,by rw [hset'];exact hs,?_,by rw [o_54];exact hm.size,fun k b hb=>?_⟩ hcnt
    ·refine hm.le.trans hle fun n b hb hn=>?_
     rcases Nat.lt_or_ge n (Hs 0).length with h | h
     ·exact h
     ·rw [htop n h] at hb;cases hb
    ·by_cases hkw:k∈(es i).wr
     ·exact .inr ⟨i,hi',by rw [hset];simp,hkw⟩
     ·rw [hk k hkw] at hb
      rcases hm.born k b hb with h | ⟨j,hj,hSj,hwj⟩
      ·exact .inl h
      ·exact .inr ⟨j,hj,by rw [hset,hS,hSj];rfl,hwj⟩
  ·have hw:Region.wanted o (yielded ops a.tmps)=false:=o_59 hg hd (by rw [←hTi d (.inl hds)] at hT;exact hT) (hsat.slots d)
   rw [hw]
   simp only [Bool.false_eq_true,if_false]
   refine ih _ _ m ⟨by simp [hls],hclosed,?_,hm.le,by rw [o_54];exact hm.size,fun k b hb=>?_⟩ hcnt
   ·rw [hset']
    refine ⟨hsat.base,fun s=>?_,fun n ob h=>hsat.obj n ob ?_,fun n k b h1 h2=>hsat.inj n k b ?_ ?_,by rw [o_55];exact hsat.defers⟩
    ·rw [hT',o_53]
     split
     ·rw [hx];unfold V.rep;exact ⟨[],rfl,by simp⟩
     ·exact hsat.slots s
    ·rw [hH',hwr] at h;simpa using h
    ·rw [hH',hwr] at h1;simpa using h1
    ·rw [hH',hwr] at h2;simpa using h2
   ·rcases hm.born k b hb with h | ⟨j,hj,hSj,hwj⟩
    ·exact .inl h
    ·exact .inr ⟨j,hj,by rw [hset,hS,hSj];rfl,hwj⟩
end

theorem o_5y {P:Program} (hmix:P.follows .mixedOrders=true) {id:Nat} {ops:Array Oper} {Q:Exit→List V→List (Option Ob)→Prop} {T:List V} {H:List (Option Ob)} (h:vops P true (Q .normal) (ops.toList.map (resolveQ P true ops)) [] T H):AWp P (.region id ops true) Q T H:=by
 intro m a sat
 obtain ⟨Ts,Hs,xs,es,rfl,rfl,h3,h4,h5⟩:=o_52 ops.toList [] T H h (fun h=>by cases h)
 have hn:ops.toList.length=ops.size:=Array.length_toList
 rw [hn] at h5
 have h4':=h4 rfl
 rw [List.append_nil,hn] at h4'
 have hst:∀i o,ops[i]?=some o→StepI P ops o (Ts i) (Hs i) (xs i) (Hs (i+1)) (es i)∧Ts (i+1)=putT (Ts i) o.dst (xs i):=fun i o ho=>h3 i o (by simpa using ho)
 have hd:m.le ⟨m.ρ,m.I,{ m.w with drawn:=m.w.drawn+1 }⟩ (· < (Hs 0).length):=⟨fun _ _ h=>h,fun _ h=>h,rfl,rfl,rfl,trivial,Nat.le_refl _,fun _ _ _=>rfl,fun _ _=>rfl,fun _ _=>rfl,fun _ h=>.inl h,fun _ _ h=>.inl h⟩
 have hlen:=o_5w hst 0 ops.size (Nat.zero_le _) (Nat.le_refl _)
 refine wp_region_any hmix ?_
 have hS:(fun j=>(Array.replicate ops.size false).getD j false)=fun _=>false:=by
  funext j
  simp only [Array.getD_eq_getD_getElem?,Array.getElem?_replicate]
  split<;>rfl
 have hz:∀{α:Type} (i:α) (w:Nat→Option α) (n:Nat),hold i w (fun _=>false) n=i:=by
  intro α i w n
  induction n with
  | zero=>rfl
  | succ n ih=>rw [hold];simpa using ih
 refine o_5x hst h4' (m0:=m) sat.top (fun a' m' hs hle=>⟨_,_,m',rfl,h5,hs,hle,hlen⟩) ops.size (Array.replicate ops.size false) a ⟨m.ρ,m.I,{ m.w with drawn:=m.w.drawn+1 }⟩ ⟨by simp,?_,?_,hd,sat.size,?_⟩ ?_
 ·intro t _ h
  have:=congrFun hS t
  rw [this] at h;cases h
 ·rw [hS]
  refine ⟨⟨sat.base.imm,sat.base.dom,sat.base.tabs.le hd⟩,fun s=>?_,fun n ob h=>?_,fun n k b h1 h2=>?_,sat.defers⟩
  ·rw [Tf,hz];exact V.rep_mono hd _ _ (sat.slots s)
  ·rw [Hf,hz] at h
   obtain ⟨b,vs,more,k1,k2,k3,k4,k5⟩:=sat.obj n ob h
   exact ⟨b,vs,more,k1,k2,k3,V.reps_mono hd _ _ k4,k5⟩
  ·rw [Hf,hz] at h1 h2
   exact sat.inj n k b h1 h2
 ·intro k b hb
  rcases Nat.lt_or_ge k (Hs 0).length with h | h
  ·exact .inl h
  ·rw [sat.top k h] at hb;cases hb
 ·exact o_5m _ _
end
section
open Go.RowKit
section
variable {P:Program} {o:Oper} {T:List V} {H:List (Option Ob)}

theorem o_5z {m:Mem} {a:Act} (sat:Sat m a T H) (d:Option Nat) {x:V} {v:Value} (hx:x.rep m v):Sat m (a.put d v) (putT T d x) H:=by
 refine ⟨sat.base,fun s=>?_,sat.obj,sat.inj,sat.top,by rw [o_54,o_57];exact sat.size,by rw [o_55];exact sat.defers⟩
 rw [o_56,o_53,sat.size]
 split
 ·exact hx
 ·exact sat.slots s

theorem o_60 {y:Operand} (ho:o.op = .next y false) {K:V→List (Option Ob)→List Nat→List Nat→Prop} (h:(A.mnx (X.of y)).step P T H K) {m:Mem} {a:Act} (sat:Sat m a T H) (K':Act→World→Prop) (Q:Exit→Act→World→Prop)
  (hK:∀x H' rd wr v m',K x H' rd wr→Sat m' (a.put o.dst v) (putT T o.dst x) H'→m.le m' (· < H.length)→H.length≤H'.length→K' (a.put o.dst v) m'.w):o.wp P a m.w K' Q:=by
 simp only [A.step,need] at h
 split at h
 rotate_left
 ·exact h.elim
 rename_i n hx
 split at h
 rotate_left
 ·exact h.elim
 rename_i ob hn
 split at h
 rotate_left
 ·exact h.elim
 rename_i k N l hit
 split at h
 rotate_left
 ·exact h.elim
 rename_i obk hk
 obtain ⟨h1,⟨h2,h3⟩,hA,hB⟩:=h
 obtain ⟨r,b,us,g1,g2,g3,g4,hT,us1,usr,g6⟩:=o_3q hit (sat.obj n ob hn)
 obtain ⟨b',vs,more,k1,k2,k3,k4,k5⟩:=sat.obj k obk hk
 rw [g2] at k1;cases k1
 rw [o_3o h1 h2,V.reps_len k4,h3] at k2
 have hlen:(entsOf (tagK obk.T) (tagV obk.T) (tagG obk.T) vs).length=N:=by rw [o_35,V.reps_len k4,h3]
 have hborn:∀(j:Nat) (e:MapEntry),(entsOf (tagK obk.T) (tagV obk.T) (tagG obk.T) vs)[j]?=some e→e.born=j:=fun j e he=>by rw [(o_34 he).2]
 generalize entsOf (tagK obk.T) (tagV obk.T) (tagG obk.T) vs=es at *
 have hvx:a.eval y = .pointer (some ⟨r,0,none⟩):=by
  have hv:((X.of y).ev T).rep m (a.eval y):=X.rep (S:=(X.of y).slots) (fun s _=>sat.slots s) y fun _ h=>h
  rw [hx] at hv
  unfold V.rep at hv
  obtain ⟨r',hr',hv⟩:=hv
  rw [g1] at hr';cases hr'
  exact hv
 have hold:∀x∈es.toArray.toList,x.born<N:=fun x hx=>by
  obtain ⟨j,hj,he⟩:=List.getElem_of_mem (by simpa using hx)
  have:=hborn j x (by rw [List.getElem?_eq_getElem hj,he])
  omega
 have hn':n<H.length:=by
  rcases Nat.lt_or_ge n H.length with h | h
  ·exact h
  ·rw [List.getD_eq_getElem?_getD,List.getElem?_eq_none h] at hn;cases hn
 have hlt:=sat.base.dom n r g1
 unfold Oper.wp
 rcases run_next_at (P:=P) m.w o.type r b N N l.toArray es.toArray N g3 k2 hold (Nat.le_refl _) with ⟨h0,hrun⟩ | ⟨e,he,w1,hw1,hrun⟩
 ·have hall:∀i,i<N→i∈l:=fun i hi=>by
   have h0':=Array.eq_empty_of_size_eq_zero h0
   unfold leftOf at h0'
   rw [Array.filter_eq_empty_iff] at h0'
   have hi':i<es.length:=by omega
   have:=h0' es[i] (by simp)
   have hb:=hborn i es[i] (List.getElem?_eq_getElem hi')
   rw [hb] at this
   simpa using this
  have:(execOp a.eval o).run P m.w = .ok (.value (.tuple #[.bool false])) m.w:=by simp [execOp,ho,hvx,hrun]
  rw [this]
  refine hK _ H _ _ _ m (hB hall) (o_5z sat o.dst ?_) (Mem.le.refl _ _) (Nat.le_refl _)
  unfold V.rep
  exact ⟨[.bool false],by simp,V.reps_cons.2 ⟨V.rep_bool.2 rfl,V.reps_nil.2 rfl⟩⟩
 ·have hei:∃i,i<N∧i∉l∧e.born=i:=by
   unfold leftOf at he
   simp at he
   obtain ⟨he1,he2⟩:=he
   obtain ⟨j,hj,hej⟩:=List.getElem_of_mem he1
   have:=hborn j e (by rw [List.getElem?_eq_getElem hj,hej])
   exact ⟨j,by omega,by rw [←this];exact he2,this⟩
  obtain ⟨i,hi,hil,hbe⟩:=hei
  have hwh:w1.heap=m.w.heap∧w1.os=m.w.os∧w1.tape=m.w.tape∧w1.output=m.w.output∧True:=by rcases hw1 with rfl | rfl<;>exact ⟨rfl,rfl,rfl,rfl,trivial⟩
  obtain ⟨q1,q2,q3,q4,q5⟩:=hwh
  have hO:Obj.mapIter (some b) N (l.toArray.push e.born) N=objOf 1000000 (us++[.int .i64 (i:Int)]) []:=by
   have:objOf 1000000 (us++[.int .i64 (i:Int)]) []=iterOf (us++[.int .i64 (i:Int)]):=by
    unfold objOf TG
    rw [if_neg (by omega),if_pos rfl]
   rw [this,g6 i,hbe]
   simp
  rw [hO] at hrun
  have hex:(execOp a.eval o).run P m.w = .ok (.value (.tuple #[.bool true,e.key,e.val])) (putB w1 r (objOf 1000000 (us++[.int .i64 (i:Int)]) [])):=by
   simp [execOp,ho,hvx,hrun];rfl
  rw [hex]
  have hsize:(putB w1 r (objOf 1000000 (us++[.int .i64 (i:Int)]) [])).heap.size=m.w.heap.size:=by rw [o_3h,q1]
  have hother:∀j,j≠r→(putB w1 r (objOf 1000000 (us++[.int .i64 (i:Int)]) [])).heap[j]?=m.w.heap[j]?:=fun j hj=>by rw [o_3f hj,q1]
  have hself:(putB w1 r (objOf 1000000 (us++[.int .i64 (i:Int)]) [])).heap[r]?=some (objOf 1000000 (us++[.int .i64 (i:Int)]) []):=o_3g (by rw [q1];exact hlt)
  have hle:m.le ⟨m.ρ,m.I,putB w1 r (objOf 1000000 (us++[.int .i64 (i:Int)]) [])⟩ (·∈[n]):=by
   refine ⟨fun _ _ h=>h,fun _ h=>h,q2,q3,q4,q5,by simp only [hsize];exact Nat.le_refl _,fun j hj hne=>hother j fun e=>hne n (by simp) (e▸g1),fun j hj=>?_,fun j hj=>hother j fun e=>g4 (e▸hj),fun _ h=>.inl h,fun _ _ h=>.inl h⟩
   by_cases e:j=r
   ·subst e
    rw [o_3i (T0:=1000000) (Nat.le_refl _) hself]
    unfold World.shape?
    rw [g3]
   ·unfold World.shape?;simp only [hother j e]
  generalize putB w1 r (objOf 1000000 (us++[.int .i64 (i:Int)]) [])=w2 at *
  have hH:∀j,(H.set n (some (⟨1000000,ob.c++[.d (.int .i64 i)]⟩:Ob))).getD j none=if j=n then some ⟨1000000,ob.c++[.d (.int .i64 i)]⟩ else H.getD j none:=fun j=>by
   rw [o_n];simp [hn']
  have hll:∀j,live (H.set n (some (⟨1000000,ob.c++[.d (.int .i64 i)]⟩:Ob))) j→live H j:=fun j hj=>by
   rw [live,hH] at hj
   split at hj
   ·rename_i e;subst e;rw [live,hn];rfl
   ·exact hj
  refine hK _ _ _ _ _ ⟨m.ρ,m.I,w2⟩ (hA i hi hil) (o_5z ⟨⟨fun j hj=>by show j<w2.heap.size;rw [hsize];exact sat.base.imm j hj,fun j c hj=>by show c<w2.heap.size;rw [hsize];exact sat.base.dom j c hj,sat.base.tabs.le hle⟩,fun s=>V.rep_mono hle _ _ (sat.slots s),fun j ob1 hj=>?_,fun j c q lj lc=>sat.inj j c q (hll j lj) (hll c lc),fun j hj=>sat.top j (by simpa using hj),sat.size,sat.defers⟩ o.dst ?_) (hle.mono fun j c _ hj=>by simp at hj;omega) (by simp)
  ·rw [hH] at hj
   split at hj
   ·rename_i e;subst e
    cases hj
    refine ⟨r,us++[.int .i64 (i:Int)],[],g1,hself,fun u hu=>?_,V.reps_append (V.reps_mono hle _ _ usr) (V.reps_cons.2 ⟨V.rep_int.2 rfl,V.reps_nil.2 rfl⟩),g4⟩
    rcases List.mem_append.1 hu with hu | hu
    ·exact us1 u hu
    ·simp at hu;subst hu;rfl
   ·rename_i e
    refine Mem.obj_keep sat.base hle (fun c q hc hq hr=>?_) (sat.obj j ob1 hj)
    simp at hc;subst hc
    exact e (sat.inj j c q (by rw [live,hj];rfl) (by rw [live,hn];rfl) hq hr)
  ·unfold V.rep
   refine ⟨[.bool true,e.key,e.val],by simp,V.reps_cons.2 ⟨V.rep_bool.2 rfl,V.reps_cons.2 ⟨?_,V.reps_cons.2 ⟨?_,V.reps_nil.2 rfl⟩⟩⟩⟩
   ·unfold V.rep;trivial
   ·unfold V.rep;trivial

theorem o_61 {K:List V→List (Option Ob)→Prop}:∀(os:List O) (tr tr':List E) (T:List V) (H:List (Option Ob)),vops P false K os tr T H=vops P false K os tr' T H
 | [],_,_,_,_=>rfl
 | o::os,tr,tr',T,H=>by
  have ih:=fun e e' T' H'=>o_61 (K:=K) os (e::tr) (e'::tr') T' H'
  simp only [vops]
  cases hg:o.g with
  | none =>
   simp only
   congr 1
   funext x H' rd wr
   exact ih _ _ _ _
  | some sw =>
   obtain ⟨s,w⟩:=sw
   simp only
   generalize T.getD s .junk=v
   have e2:∀b:Bool,((b=w→o.a.step P T H fun x H' rd wr=>vops P false K os (⟨s::o.a.slots,o.dst,rd,wr,o.after⟩::tr) (putT T o.dst x) H')∧(b≠w→vops P false K os (⟨[s],o.dst,[],[],o.after⟩::tr) (putT T o.dst (.tup [])) H))=((b=w→o.a.step P T H fun x H' rd wr=>vops P false K os (⟨s::o.a.slots,o.dst,rd,wr,o.after⟩::tr') (putT T o.dst x) H')∧(b≠w→vops P false K os (⟨[s],o.dst,[],[],o.after⟩::tr') (putT T o.dst (.tup [])) H)):=fun b=>by
    congr 2
    ·congr 1
     funext x H' rd wr
     exact ih _ _ _ _
    ·exact ih _ _ _ _
   split
   ·exact e2 _
   ·exact ih _ _ _ _
   ·rfl

theorem o_62 {ops:Array Oper} {K:List V→List (Option Ob)→Prop} {Q:Exit→Act→World→Prop}:∀(os:List Oper) (tr:List E) (T:List V) (H:List (Option Ob)),vops P false K (os.map (resolveQ P false ops)) tr T H→∀(m:Mem) (a:Act),Sat m a T H →
  (∀T' H' a' m',K T' H'→Sat m' a' T' H'→m.le m' (· < H.length)→H.length≤H'.length→Q .normal a' m'.w)→wpList P ops Q os a m.w
 | [],tr,T,H,h,m,a,sat,hQ=>hQ T H a m (by simpa [vops] using h) sat (Mem.le.refl _ _) (Nat.le_refl _)
 | o::os,tr,T,H,h,m,a,sat,hQ=>by
  have rest:∀(T1:List V) (H1:List (Option Ob)) (a1:Act) (m1:Mem),vops P false K (os.map (resolveQ P false ops)) [] T1 H1→Sat m1 a1 T1 H1→m.le m1 (· < H.length)→H.length≤H1.length→wpList P ops Q os a1 m1.w:=fun T1 H1 a1 m1 hv s1 l1 n1 =>
   o_62 os [] T1 H1 hv m1 a1 s1 fun T' H' a' m' hK s' l' n'=>hQ T' H' a' m' hK s' (l1.trans l' fun n b hb hn=>by
    rcases Nat.lt_or_ge n H.length with h | h
    ·exact h
    ·rw [sat.top n h] at hb;cases hb) (Nat.le_trans n1 n')
  refine wpList_step fun K' hK'=>?_
  by_cases hnx:∃y,o.op = .next y false∧o.guard=none
  ·obtain ⟨y,ho,hg⟩:=hnx
   have hr:resolve P o = .mnx (X.of y):=by unfold resolve;rw [ho]
   have hcu:cutA P ops o=none:=by unfold cutA;rw [ho]
   simp only [List.map_cons,vops,resolveQ,hg,resolveA,Bool.false_and,Bool.false_eq_true,if_false,hcu,hr] at h
   rw [o_5a hg,if_pos rfl]
   exact o_60 ho h sat K' Q fun x H' rd wr v m' hv s' l' n'=>hK' _ _ (rest _ _ _ _ (by rw [o_61 _ _ _ _ _] at hv;exact hv) s' l' n')
  ·have h1:vops P false (fun T1 H1=>vops P false K (os.map (resolveQ P false ops)) [] T1 H1) ([o].map (resolveQ P false ops)) tr T H:=by
    simp only [List.map_cons,List.map_nil,vops] at h ⊢
    have e1:∀e T1 H1,vops P false K (os.map (resolveQ P false ops)) e T1 H1=vops P false K (os.map (resolveQ P false ops)) [] T1 H1:=fun e T1 H1=>o_61 _ _ _ _ _
    simp only [e1] at h
    simpa using h
   by_cases hn2:isNx o=false
   ·obtain ⟨Ts,Hs,xs,es,rfl,rfl,h3,_,h5⟩:=o_52 [o] tr T H h1 (fun _ o' ho'=>by simp at ho';subst ho';exact hn2)
    obtain ⟨h6,h7⟩:=h3 0 o rfl
    have hlen:(Hs 0).length≤(Hs 1).length:=by
     obtain ⟨_,_,⟨S,_,hok,_⟩ | ⟨_,he,_⟩⟩:=h6
     ·exact hok.len
     ·rw [he];exact Nat.le_refl _
    exact o_5b h6 sat K' Q fun v m' s' l'=>hK' _ _ (rest _ _ _ _ (by rw [←h7];exact h5) s' l' hlen)
   ·-- a guarded one,or one over a text: never
    exfalso
    simp only [List.map_cons,List.map_nil,vops] at h1
    have hb:isNx o=true:=by cases hb:isNx o<;>simp_all
    obtain ⟨y,s,ho⟩:∃y s,o.op = .next y s:=by
     unfold isNx at hb
     split at hb
     ·rename_i y s ho;exact ⟨y,s,ho⟩
     ·cases hb
    cases hg:o.guard with
    | none =>
     cases s with
     | false=>exact hnx ⟨y,ho,hg⟩
     | true =>
      have hr:resolve P o = .bad:=by unfold resolve;rw [ho]
      have hcu:cutA P ops o=none:=by unfold cutA;rw [ho]
      simp [resolveQ,hg,resolveA,hcu,hr,A.step] at h1
    | some jw =>
     obtain ⟨j,w⟩:=jw
     simp [resolveQ,hg,hb,A.step] at h1

theorem o_63 {id:Nat} {ops:Array Oper} {Q:Exit→List V→List (Option Ob)→Prop} (h:vops P false (Q .normal) (ops.toList.map (resolveQ P false ops)) [] T H):AWp P (.region id ops false) Q T H:=by
 intro m a sat
 refine wp_region_list (o_62 ops.toList [] T H h m a sat fun T' H' a' m' hK s' l' n'=>?_)
 exact ⟨T',H',m',rfl,hK,s',l',n'⟩
end
end
section
open Go.RowKit
def AW (P:Program) (L:Nat) (c:C) (Q:Exit→List V→List (Option Ob)→Prop) (T:List V) (H:List (Option Ob)):Prop :=
 ∀code,resolveC P code=c→∀(m0 m:Mem) (a:Act),Sat m a T H→m0.le m (· < L)→(∀n,L≤n→m0.ρ n=none)→L≤H.length →
  code.wp P (fun e a' w'=>∃T' H',∃m':Mem,m'.w=w'∧Q e T' H'∧Sat m' a' T' H'∧m0.le m' (· < L)∧L≤H'.length) a m.w

def thenQ (K:List V→List (Option Ob)→Prop) (Q:Exit→List V→List (Option Ob)→Prop):Exit→List V→List (Option Ob)→Prop
 | .normal,T,H=>K T H
 | e,T,H=>Q e T H
def blockQ (id:Nat) (Q:Exit→List V→List (Option Ob)→Prop):Exit→List V→List (Option Ob)→Prop
 | .exit j,T,H=>if j=id then Q .normal T H else Q (.exit j) T H
 | e,T,H=>Q e T H

section
variable {P:Program} {L:Nat} {Q:Exit→List V→List (Option Ob)→Prop} {T:List V} {H:List (Option Ob)}

theorem AW.skip (h:Q .normal T H):AW P L .skip Q T H:=by
 intro code hc m0 m a sat hle htop hL
 cases code<;>simp [resolveC] at hc
 ·exact wp_skip ⟨T,H,m,rfl,h,sat,hle,hL⟩
 ·exact wp_label ⟨T,H,m,rfl,h,sat,hle,hL⟩
def scopeQ (Q:Exit→List V→List (Option Ob)→Prop):Exit→List V→List (Option Ob)→Prop
 | .goto _,_,_=>False
 | e,T,H=>Q e T H
attribute [simp] scopeQ
theorem AW.scope {x:C} (h:AW P L x (scopeQ Q) T H):AW P L (.scope x) Q T H:=by
 intro code hc m0 m a sat hle htop hL
 cases code<;>simp [resolveC] at hc
 rename_i cx
 refine wp_scope_straight (wp_mono (h cx hc m0 m a sat hle htop hL) ?_)
 rintro e a' w' ⟨T',H',m',rfl,hq,sat',hle',hL'⟩
 cases e with
 | goto l=>exact hq.elim
 | _=>exact ⟨T',H',m',rfl,hq,sat',hle',hL'⟩
theorem AW.ret (h:Q .ret T H):AW P L .ret Q T H:=by
 intro code hc m0 m a sat hle htop hL
 cases code<;>simp [resolveC] at hc
 exact wp_ret ⟨T,H,m,rfl,h,sat,hle,hL⟩
theorem AW.exit {id:Nat} (h:Q (.exit id) T H):AW P L (.exit id) Q T H:=by
 intro code hc m0 m a sat hle htop hL
 cases code<;>simp [resolveC] at hc
 subst hc
 exact wp_exit ⟨T,H,m,rfl,h,sat,hle,hL⟩
theorem AW.seq {x y:C} (h:AW P L x (thenQ (AW P L y Q) Q) T H):AW P L (.seq x y) Q T H:=by
 intro code hc m0 m a sat hle htop hL
 cases code<;>simp [resolveC] at hc
 rename_i cx cy
 obtain ⟨hx,hy⟩:=hc
 refine wp_seq (wp_mono (h cx hx m0 m a sat hle htop hL) ?_)
 rintro e a' w' ⟨T',H',m',rfl,hq,sat',hle',hL'⟩
 cases e with
 | normal=>exact hq cy hy m0 m' a' sat' hle' htop hL'
 | _=>exact ⟨T',H',m',rfl,hq,sat',hle',hL'⟩
theorem AW.cond {c:X} {x y:C} {b:Bool} (hb:c.ev T = .d (.bool b)) (h1:b=true→AW P L x Q T H) (h2:b=false→AW P L y Q T H):AW P L (.cond c x y) Q T H:=by
 intro code hc m0 m a sat hle htop hL
 cases code<;>simp [resolveC] at hc
 rename_i cc cx cy
 obtain ⟨hcc,hx,hy⟩:=hc
 have hv:a.eval cc = .bool b:=by
  refine V.rep_bool.1 (X.rep' (T:=T) (fun s _=>sat.slots s) ?_)
  rw [hcc];exact hb
 refine wp_cond hv ?_
 cases b
 ·exact h2 rfl cy hy m0 m a sat hle htop hL
 ·exact h1 rfl cx hx m0 m a sat hle htop hL
theorem AW.block {id:Nat} {x:C} (h:AW P L x (blockQ id Q) T H):AW P L (.block id x) Q T H:=by
 intro code hc m0 m a sat hle htop hL
 cases code<;>simp [resolveC] at hc
 rename_i id' cx
 obtain ⟨rfl,hx⟩:=hc
 refine wp_block (wp_mono (h cx hx m0 m a sat hle htop hL) ?_)
 rintro e a' w' ⟨T',H',m',rfl,hq,sat',hle',hL'⟩
 cases e with
 | exit j =>
  simp only [blockQ] at hq
  simp only [Exit.inBlock]
  split at hq
  ·rename_i hj;rw [if_pos hj];exact ⟨T',H',m',rfl,hq,sat',hle',hL'⟩
  ·rename_i hj;rw [if_neg hj];exact ⟨T',H',m',rfl,hq,sat',hle',hL'⟩
 | _=>exact ⟨T',H',m',rfl,hq,sat',hle',hL'⟩

theorem AW.reg {draw:Bool} {ops:List O} (hmix:P.follows .mixedOrders=true) (h:vops P draw (Q .normal) ops [] T H):AW P L (.reg draw ops) Q T H:=by
 intro code hc m0 m a sat hle htop hL
 cases code<;>simp [resolveC] at hc
 rename_i id cops d
 obtain ⟨rfl,rfl⟩:=hc
 have:AWp P (.region id cops d) Q T H:=by
  cases d
  ·exact o_63 h
  ·exact o_5y hmix h
 refine wp_mono (this m a sat) ?_
 rintro e a' w' ⟨T',H',m',rfl,hq,sat',hle',hL'⟩
 refine ⟨T',H',m',rfl,hq,sat',hle.trans hle' fun n b hb hn=>?_,Nat.le_trans hL hL'⟩
 rcases Nat.lt_or_ge n L with h | h
 ·exact h
 ·rw [htop n h] at hb;cases hb

theorem o_64 {c:Code} {R:Exit→Act→World→Prop} (J:Nat→Act→World→Prop) (round:∀k a w,J k a w→c.wp P (Exit.then (fun a' w'=>∃k',k'<k∧J k' a' w') R) a w) (k:Nat) (a:Act) (w:World) (h:J k a w):(Code.loop c).wp P R a w:=by
 intro b kk cs
 have key:∀k a w,J k a w→∃e a' w',R e a' w'∧Arrives P (lone (b.at a (.code c::.inLoop c::kk)) cs w) b kk cs e a' w':=by
  intro k
  induction k using Nat.strongRecOn with
  | _ k ih =>
   intro a w hJ
   obtain ⟨e,a₁,w₁,hq,harr⟩:=round k a w hJ b (.inLoop c::kk) cs
   cases e with
   | normal =>
    obtain ⟨k',hk,hJ'⟩:=hq
    obtain ⟨e₂,a₂,w₂,hq₂,harr₂⟩:=ih k' hk a₁ w₁ hJ'
    exact ⟨e₂,a₂,w₂,hq₂,.of_steps (Steps.trans harr (.one step_inLoop)) harr₂⟩
   | exit id=>exact ⟨_,a₁,w₁,hq,.pass (x:=.inLoop c) rfl (fun _ _=>.inl (by simp)) harr⟩
   | goto l=>exact ⟨_,a₁,w₁,hq,.pass (x:=.inLoop c) rfl (fun _ _=>.inl (by simp)) harr⟩
   | ret=>exact ⟨_,a₁,w₁,hq,.pass (x:=.inLoop c) rfl (fun _ _=>.inl (by simp)) harr⟩
   | panic ch=>exact ⟨_,a₁,w₁,hq,.pass (x:=.inLoop c) rfl (fun _ _=>.inl (by simp)) harr⟩
   | outgrown=>exact ⟨_,a₁,w₁,hq,.pass (x:=.inLoop c) rfl (fun _ _=>.inl (by simp)) harr⟩
 obtain ⟨e,a',w',hq,harr⟩:=key k a w h
 exact ⟨e,a',w',hq,.of_steps (.one step_loop) harr⟩

theorem AW.loop {x:C} (J:Nat→List V→List (Option Ob)→Prop) (k:Nat) (h0:J k T H) (h:∀k T H,J k T H→AW P L x (thenQ (fun T' H'=>∃k',k'<k∧J k' T' H') Q) T H):AW P L (.loop x) Q T H:=by
 intro code hc m0 m a sat hle htop hL
 cases code<;>simp [resolveC] at hc
 rename_i cx
 refine o_64 (fun k a w=>∃T H m,m.w=w∧J k T H∧Sat m a T H∧m0.le m (· < L)∧L≤H.length) ?_ k a m.w ⟨T,H,m,rfl,h0,sat,hle,hL⟩
 rintro k a w ⟨T,H,m,rfl,hJ,sat,hle,hL⟩
 refine wp_mono (h k T H hJ cx hc m0 m a sat hle htop hL) ?_
 rintro e a' w' ⟨T',H',m',rfl,hq,sat',hle',hL'⟩
 cases e with
 | normal =>
  obtain ⟨k',hk,hJ'⟩:=hq
  exact ⟨k',hk,T',H',m',rfl,hJ',sat',hle',hL'⟩
 | _=>exact ⟨T',H',m',rfl,hq,sat',hle',hL'⟩

mutual
theorem V.ren_id:∀x:V,x.ren id=x
 | .d _ | .p _ _ | .row _ _ _ | .own _ _ _ | .mp _ | .ch _ | .junk=>by simp [V.ren]
 | .agg l | .tup l | .fn _ l | .fb _ l=>by simp [V.ren,V.rens_id l]
theorem V.rens_id:∀l:List V,V.rens id l=l
 | []=>by simp [V.rens]
 | x::l=>by simp [V.rens,V.ren_id x,V.rens_id l]
end

def Sub1 (x y:V):Prop:=∀m v,x.rep m v→y.rep m v
theorem Sub1.refl (x:V):Sub1 x x:=fun _ _ h=>h
theorem Sub1.junk (x:V):Sub1 x .junk:=fun _ _ _=>by unfold V.rep;trivial

structure Weak (T:List V) (H:List (Option Ob)) (T1:List V) (H1:List (Option Ob)):Prop where
 lenT:T1.length=T.length
 lenH:H1.length≤H.length
 slots:∀s,Sub1 (T.getD s .junk) (T1.getD s .junk)∧(T1.getD s .junk).low H1.length=true
 obs:∀n ob1,H1.getD n none=some ob1→∃ob,H.getD n none=some ob∧ob.T=ob1.T∧Subs ob.c ob1.c∧V.lowl H1.length ob1.c=true

theorem Sat.weaken {m0 m:Mem} {a:Act} {T1:List V} {H1:List (Option Ob)} (hw:Weak T H T1 H1) (sat:Sat m a T H) (hle:m0.le m (· < L)) (htop:∀n,L≤n→m0.ρ n=none) (hL1:L≤H1.length):∃m1:Mem,m1.w=m.w∧Sat m1 a T1 H1∧m0.le m1 (· < L)∧L≤H1.length:=by
 have hρ:∀n,n<H1.length→(⟨fun n=>if n<H1.length then m.ρ n else none,m.I,m.w⟩:Mem).ρ n=m.ρ (id n):=fun n hn=>by simp [hn]
 have hrep:∀(x:V) (v:Value),x.low H1.length=true→x.rep m v→x.rep ⟨fun n=>if n<H1.length then m.ρ n else none,m.I,m.w⟩ v:=fun x v hx hr =>
  (V.rep_ren (m:=m) (m':=⟨fun n=>if n<H1.length then m.ρ n else none,m.I,m.w⟩) (θ:=id) rfl rfl hρ x v hx).1 (by rw [V.ren_id];exact hr)
 have hreps:∀(l:List V) (vs:List Value),V.lowl H1.length l=true→V.reps m l vs→V.reps ⟨fun n=>if n<H1.length then m.ρ n else none,m.I,m.w⟩ l vs:=fun l vs hx hr =>
  (V.reps_ren (m:=m) (m':=⟨fun n=>if n<H1.length then m.ρ n else none,m.I,m.w⟩) (θ:=id) rfl rfl hρ l vs hx).1 (by rw [V.rens_id];exact hr)
 have hlt:∀n,live H1 n→n<H1.length:=fun n hn=>by
  rcases Nat.lt_or_ge n H1.length with h | h
  ·exact h
  ·rw [live,List.getD_eq_getElem?_getD,List.getElem?_eq_none h] at hn;cases hn
 have hll:∀n,live H1 n→live H n:=fun n hn=>by
  obtain ⟨ob1,h1⟩:=Option.isSome_iff_exists.1 hn
  obtain ⟨ob,h2,_⟩:=hw.obs n ob1 h1
  rw [live,h2];rfl
 refine ⟨⟨fun n=>if n<H1.length then m.ρ n else none,m.I,m.w⟩,rfl,⟨⟨sat.base.imm,fun n b hb=>?_,sat.base.tabs.mono (fun _ h=>h) (fun _ _=>rfl)⟩,fun s=>hrep _ _ (hw.slots s).2 ((hw.slots s).1 m _ (sat.slots s)),fun n ob1 h1=>?_,fun n k b ln lk h1 h2=>?_,fun n hn=>by simp [show ¬n<H1.length by omega],by rw [hw.lenT];exact sat.size,sat.defers⟩,?_,hL1⟩
 ·simp only at hb
  split at hb
  ·exact sat.base.dom n b hb
  ·cases hb
 ·obtain ⟨ob,h2,h3,h4,h5⟩:=hw.obs n ob1 h1
  obtain ⟨b,vs,more,k1,k2,k3,k4,k5⟩:=sat.obj n ob h2
  have hn:=hlt n (by rw [live,h1];rfl)
  exact ⟨b,vs,more,by simp [hn,k1],by rw [←h3];exact k2,k3,hreps _ _ h5 (h4 m vs k4),k5⟩
 ·simp only [hlt n ln,hlt k lk,if_true] at h1 h2
  exact sat.inj n k b (hll n ln) (hll k lk) h1 h2
 ·refine ⟨fun n b hb=>?_,hle.I,hle.os,hle.tape,hle.output,hle.drawn,hle.size,hle.block,hle.shape,hle.imm,hle.newI,fun n b hb=>?_⟩
  ·have hn:n<L:=by
    rcases Nat.lt_or_ge n L with h | h
    ·exact h
    ·rw [htop n h] at hb;cases hb
   simp [show n<H1.length by omega,hle.ρ n b hb]
  ·simp only at hb
   split at hb
   ·exact hle.newρ n b hb
   ·cases hb

theorem AW.weak {c:C} {T1:List V} {H1:List (Option Ob)} (hw:Weak T H T1 H1) (hL1:L≤H1.length) (h:AW P L c Q T1 H1):AW P L c Q T H:=by
 intro code hc m0 m a sat hle htop hL
 obtain ⟨m1,e,s1,l1,n1⟩:=Sat.weaken hw sat hle htop hL1
 have:=h code hc m0 m1 a s1 l1 htop n1
 rw [e] at this
 exact this

theorem o_65 (n s:Nat) (ds:List D):∀l:List V,V.frzs n s ds l=l.map (V.frz n s ds)
 | []=>rfl
 | x::l=>by simp [V.frzs,o_65 n s ds l]


theorem AW.freeze {c:C} (n s:Nat) (ob:Ob) (ds:List D) (hn:H.getD n none=some ob) (hd:ob.c=ds.map .d) (h:AW P L c Q (T.map (V.frz n s ds)) (frzH n s ds H)) (hT:Nat.blt ob.T 1000000=true:=by rfl):AW P L c Q T H:=by
 intro code hc m0 m a sat hle htop hL
 obtain ⟨b,vs,more,h1,h2,h3,h4,h5⟩:=sat.obj n ob hn
 rw [o_0 (Nat.le_of_ble_eq_true hT)] at h2
 have hI:∀k,m.I k→(⟨m.ρ,fun k=>m.I k∨k=b,m.w⟩:Mem).I k:=fun k hk=>.inl hk
 have hlt:=sat.base.dom n b h1
 rw [hd,V.reps_map_d] at h4
 have hr:D.reps (fun k=>m.I k∨k=b) m.w ds vs:=D.reps_mono hI (fun _ _=>rfl) ds vs h4
 have hcell:∀i u,vs[i]?=some u→m.w.cell? ⟨b,i,none⟩=some u:=fun i u hu=>o_7 h2 hu
 have frz:=fun x v=>V.frz_rep (m:=m) (m1:=⟨m.ρ,fun k=>m.I k∨k=b,m.w⟩) (n:=n) (s:=s) (b:=b) (ds:=ds) (vs:=vs) ⟨rfl,rfl,hI,h1,.inr rfl,h3,hr,hcell⟩ x v
 have frzs:=fun l us=>V.frzs_rep (m:=m) (m1:=⟨m.ρ,fun k=>m.I k∨k=b,m.w⟩) (n:=n) (s:=s) (b:=b) (ds:=ds) (vs:=vs) ⟨rfl,rfl,hI,h1,.inr rfl,h3,hr,hcell⟩ l us
 have hget:∀k,(frzH n s ds H).getD k none=if k=n then none else (H.getD k none).map fun ob=>⟨ob.T,V.frzs n s ds ob.c⟩:=fun k=>by
  unfold frzH
  rw [o_n]
  by_cases e:k=n
  ·subst e
   by_cases hk:k<H.length
   ·simp [hk]
   ·simp [hk]
  ·simp only [e,false_and,if_false]
   rw [List.getD_eq_getElem?_getD,List.getD_eq_getElem?_getD,List.getElem?_map]
   cases H[k]?<;>rfl
 have hll:∀k,live (frzH n s ds H) k→k≠n∧live H k:=fun k hk=>by
  rw [live,hget] at hk
  split at hk
  ·cases hk
  ·refine ⟨‹_›,?_⟩
   rw [live]
   simpa using hk
 refine h code hc m0 ⟨m.ρ,fun k=>m.I k∨k=b,m.w⟩ a ⟨⟨fun k hk=>?_,sat.base.dom,sat.base.tabs.mono (fun _ h=>.inl h) (fun _ _=>rfl)⟩,fun i=>?_,fun k ob1 hk=>?_,fun k j b' lk lj e1 e2=>sat.inj k j b' (hll k lk).2 (hll j lj).2 e1 e2,fun k hk=>sat.top k (by simpa [frzH] using hk),by simpa using sat.size,sat.defers⟩ ?_ htop (by simpa [frzH] using hL)
 ·rcases hk with hk | rfl
  ·exact sat.base.imm k hk
  ·exact hlt
 ·rw [List.getD_eq_getElem?_getD,List.getElem?_map]
  have:=sat.slots i
  rw [List.getD_eq_getElem?_getD] at this
  cases ht:T[i]? with
  | none=>simp only [Option.map_none,Option.getD_none];unfold V.rep;trivial
  | some x=>rw [ht] at this;exact frz x _ this
 ·have hkl:=hll k (by rw [live,hk];rfl)
  rw [hget,if_neg hkl.1] at hk
  simp only [Option.map_eq_some_iff] at hk
  obtain ⟨ob0,hk0,rfl⟩:=hk
  obtain ⟨b',us,more',k1,k2,k3,k4,k5⟩:=sat.obj k ob0 hk0
  refine ⟨b',us,more',k1,k2,k3,frzs _ _ k4,?_⟩
  rintro (hk' | rfl)
  ·exact k5 hk'
  ·exact hkl.1 (sat.inj k n b' hkl.2 (by rw [live,hn];rfl) k1 h1)
 ·refine ⟨hle.ρ,fun k hk=>.inl (hle.I k hk),hle.os,hle.tape,hle.output,hle.drawn,hle.size,hle.block,hle.shape,hle.imm,fun k hk=>?_,hle.newρ⟩
  rcases hk with hk | rfl
  ·exact hle.newI k hk
  ·rcases hle.newρ n k h1 with h6 | h6 | ⟨j,h6,h7⟩
   ·have:n<L:=by
     rcases Nat.lt_or_ge n L with h | h
     ·exact h
     ·rw [htop n h] at h6;cases h6
    exact .inr (.inr ⟨n,this,h6⟩)
   ·exact .inr (.inl h6)
   ·exact .inr (.inr ⟨j,h6,h7⟩)
end
end
section
open Go.RowKit
inductive RV where
 | t (n:Nat)
 | cell (n:Nat) (g:Bool) (s:Nat)
 | bad
 deriving Inhabited

def resolveR (P:Program):ResultVar→RV
 | .tmp t=>.t t
 | .cell a t=>match aggB P t,P.info? t with
  | some g,some i=>.cell a g i.size
  | _,_=>.bad

def RV.out (T:List V) (H:List (Option Ob)):RV→Option V
 | .t n=>some (T.getD n .junk)
 | .cell n g s=>match T.getD n .junk with
  | .p k off=>match H.getD k none with
   | some ob=>if 1000000≤ob.T then none else if g then (if off+s≤ob.c.length then some (mkAgg ((ob.c.drop off).take s)) else none) else (if off<ob.c.length then some (ob.c.getD off .junk) else none)
   | none=>none
  | _=>none
 | .bad=>none
def outs (T:List V) (H:List (Option Ob)):List RV→Option (List V)
 | []=>some []
 | r::l=>match r.out T H,outs T H l with
  | some x,some xs=>some (x::xs)
  | _,_=>none
def outV (T:List V) (H:List (Option Ob)) (l:List RV):Option V:=match outs T H l with
 | some [x]=>some x
 | some l=>some (.tup l)
 | none=>none

def resRun (tmps:Array Value):ResultVar→Sem Value
 | .tmp k=>pure (tmps.getD k undef)
 | .cell k ty=>do loadVar ty (←asAddr (tmps.getD k undef))
theorem o_66 (fn:Func) (tmps:Array Value):results fn tmps=(do
  let vs ←fn.results.mapM (resRun tmps)
  pure (if h:vs.size=1 then vs[0] else .tuple vs)):=by
 unfold results
 congr 1

section
variable {P:Program} {m:Mem} {a:Act} {T:List V} {H:List (Option Ob)}

theorem o_67 (sat:Sat m a T H) (r:ResultVar) (x:V) (h:(resolveR P r).out T H=some x):∃v,(resRun a.tmps r).run P m.w = .ok v m.w∧x.rep m v:=by
 cases r with
 | tmp k=>simp only [resolveR,RV.out,Option.some.injEq] at h;subst h;exact ⟨_,rfl,sat.slots k⟩
 | cell k ty =>
  simp only [resolveR] at h
  cases hg:aggB P ty with
  | none=>simp [hg,RV.out] at h
  | some g =>
   cases hi:P.info? ty with
   | none=>simp [hg,hi,RV.out] at h
   | some i =>
    simp only [hg,hi,RV.out] at h
    split at h
    ·rename_i n off hT
     split at h
     ·rename_i ob hn
      split at h
      ·cases h
      rename_i hTG
      obtain ⟨b,vs,more,h1,h2,h3,h4,h5⟩:=sat.obj n ob hn
      rw [o_0 (Nat.lt_of_not_le hTG)] at h2
      have hv:=sat.slots k
      rw [hT] at hv
      unfold V.rep at hv
      obtain ⟨b',hb',hv⟩:=hv
      rw [h1] at hb';cases hb'
      have hlen:=V.reps_len h4
      have hld:∀v,(Instr.loadAt ty (.pointer (some ⟨b,off,none⟩))).run P m.w = .ok v m.w→(resRun a.tmps (.cell k ty)).run P m.w = .ok v m.w:=fun v hr=>by
       simpa [resRun,hv,Instr.loadAt,Instr.sureAddr,asAddr] using hr
      cases g
      ·simp only [Bool.false_eq_true,if_false] at h
       split at h
       ·rename_i hl
        cases h
        obtain ⟨u,hu,hr⟩:=V.reps_get h4 off ob.c[off] (by simp [hl])
        have:=(o_h (m:=m) hg hi b off (vs.drop off) fun j u hu=>o_7 h2 (by rwa [List.getElem?_drop] at hu)).2 rfl u (by rw [List.getElem?_drop];exact hu)
        exact ⟨u,hld u this,by simpa [List.getD,hl] using hr⟩
       ·cases h
      ·simp only [if_true] at h
       split at h
       ·rename_i hl
        cases h
        have:=(o_h (m:=m) hg hi b off ((vs.drop off).take i.size) fun j u hu=>o_7 h2 (o_i hu)).1 rfl (by simp;omega)
        exact ⟨_,hld _ this,o_3 (V.reps_take (V.reps_drop h4 off) i.size) fun u hu=>h3 u (List.mem_of_mem_drop (List.mem_of_mem_take hu))⟩
       ·cases h
     ·cases h
    ·cases h

theorem o_68 (sat:Sat m a T H):∀(rs:List ResultVar) (xs:List V),outs T H (rs.map (resolveR P))=some xs →
  ∃vs:List Value,(rs.mapM (resRun a.tmps)).run P m.w = .ok vs m.w∧V.reps m xs vs
 | [],xs,h=>by simp only [List.map_nil,outs,Option.some.injEq] at h;subst h;exact ⟨[],by simp,by simp⟩
 | r::rs,xs,h=>by
  simp only [List.map_cons,outs] at h
  split at h
  ·rename_i x xs' hx hxs
   cases h
   obtain ⟨v,h1,h2⟩:=o_67 sat r x hx
   obtain ⟨vs,h3,h4⟩:=o_68 sat rs xs' hxs
   exact ⟨v::vs,by rw [List.mapM_cons];simp only [Sem.run_bind,h1,Result.andThen_ok,h3,Sem.run_pure],V.reps_cons.2 ⟨h2,h4⟩⟩
  ·cases h

theorem o_69 (sat:Sat m a T H) (fn:Func) (x:V) (h:outV T H (fn.results.toList.map (resolveR P))=some x):∃v,(results fn a.tmps).run P m.w = .ok v m.w∧x.rep m v:=by
 have key:∀vs:List Value,(fn.results.toList.mapM (resRun a.tmps)).run P m.w = .ok vs m.w→(results fn a.tmps).run P m.w = .ok (if h:vs.toArray.size=1 then vs.toArray[0] else .tuple vs.toArray) m.w:=by
  intro vs h
  rw [o_66,Array.mapM_eq_mapM_toList]
  simp only [Sem.run_bind,Sem.run_map,h,Result.andThen_ok,Sem.run_pure]
 unfold outV at h
 split at h
 ·rename_i y hy
  cases h
  obtain ⟨vs,h1,h2⟩:=o_68 sat _ _ hy
  obtain ⟨v,r,rfl,h3,h4⟩:=V.reps_cons'.1 h2
  simp at h4;subst h4
  exact ⟨v,by rw [key _ h1];rfl,h3⟩
 ·rename_i l hl hne
  cases h
  obtain ⟨vs,h1,h2⟩:=o_68 sat _ _ hne
  refine ⟨.tuple vs.toArray,?_,by unfold V.rep;exact ⟨vs,rfl,h2⟩⟩
  have hlen:¬vs.toArray.size=1:=by
   intro e
   have hlv:=V.reps_len h2
   simp at e
   rw [e] at hlv
   match l,hlv with
   | [y],_=>exact hl y rfl
  rw [key _ h1,dif_neg hlen]
 ·cases h
end

def apartN (θ dead:List Nat):Prop:=∀i j,i∉dead→j∉dead→i<θ.length→j<θ.length→θ.getD i 0=θ.getD j 0→i=j
theorem apartN.of {θ dead:List Nat} (h:θ.Nodup):apartN θ dead:=fun i j _ _ hi hj he=>by
 have e1:θ[i]=θ[j]:=by simpa [List.getD,hi,hj] using he
 exact (List.getElem_inj h).1 e1

def retQ (rs:List RV) (k:Nat) (X:V) (Hs':List Ob) (dead:List Nat):Exit→List V→List (Option Ob)→Prop
 | .normal,T,H | .ret,T,H=>∃θ:List Nat,θ.length=Hs'.length∧(∀i,i<k→θ.getD i 0=i)∧apartN θ dead∧(∃x,outV T H rs=some x∧Sub1 x (X.ren fun i=>θ.getD i 0)) ∧
   ∀i ob,i∉dead→Hs'[i]?=some ob→∃ob1,H.getD (θ.getD i 0) none=some ob1∧ob1.T=ob.T∧Subs ob1.c (V.rens (fun i=>θ.getD i 0) ob.c)
 | _,_,_=>False

theorem Eqn.of_AW {P : Program} {f : FuncId} {fn : Func} {code : Code} {c : C} {rs : List RV} {nt : Nat} {args : List V} {Hs : List Ob} {X : V} {Hs' : List Ob} {dead : List Nat} (hf : P.funcs[f]? = some fn) (hname : (fn.name == "runtime.NumGoroutine") = false)
  (hb:fn.body=some code) (hc:resolveC P code=c) (hr:fn.results.toList.map (resolveR P)=rs) (hn:fn.ntmps=nt) (hlen:Hs.length≤Hs'.length) (hold:∀n∈dead,n<Hs.length) (lowx:X.low Hs'.length=true) (lowo:∀ob∈Hs',V.lowl Hs'.length ob.c=true)
  (h:AW P Hs.length c (retQ rs Hs.length X Hs' dead) (args++List.replicate (nt-args.length) .junk) (Hs.map some)):EqnD P f args Hs X Hs' dead:=by
 refine ⟨hlen,hold,lowx,lowo,fun m vs mb hargs hobj hinj htop=>.inr ⟨?_,?_⟩⟩
 ·have h1 : ¬ fn.name = "runtime.NumGoroutine" := by simpa using hname
  simp [callFunc,hf,h1,hb]
 ·refine calls_of_wp hf hb ?_
  have hget:∀n,(Hs.map some).getD n none=Hs[n]?:=fun n=>by
   rw [List.getD_eq_getElem?_getD,List.getElem?_map];cases Hs[n]?<;>rfl
  have hal:=V.reps_len hargs
  have sat:Sat m { tmps:=vs.toArray++Array.replicate (fn.ntmps-vs.toArray.size) undef,defers:=[] } (args++List.replicate (nt-args.length) .junk) (Hs.map some):=by
   refine ⟨mb,fun s=>?_,fun n ob ho=>hobj n ob (by rw [←hget];exact ho),fun n k b ln lk h1 h2=>?_,fun n hn'=>htop n (by simpa using hn'),?_,rfl⟩
   ·rcases Nat.lt_or_ge s args.length with hs | hs
    ·obtain ⟨v,h1,h2⟩:=V.reps_get hargs s args[s] (by simp [hs])
     have e1:(args++List.replicate (nt-args.length) V.junk).getD s .junk=args[s]:=by simp [List.getD,List.getElem?_append_left hs,hs]
     have e2:(vs.toArray++Array.replicate (fn.ntmps-vs.toArray.size) undef).getD s undef=v:=by
      rw [Array.getD_eq_getD_getElem?,Array.getElem?_append_left (by simpa using (by omega:s<vs.length))]
      simp [h1]
     rw [e1,e2];exact h2
    ·have e1:(args++List.replicate (nt-args.length) V.junk).getD s .junk = .junk:=by
      rw [List.getD_eq_getElem?_getD,List.getElem?_append_right hs,List.getElem?_replicate]
      split<;>rfl
     rw [e1];unfold V.rep;trivial
   ·have l1:∀n,live (Hs.map some) n→n<Hs.length:=fun n hn'=>by
     rcases Nat.lt_or_ge n Hs.length with h | h
     ·exact h
     ·rw [live,hget,List.getElem?_eq_none h] at hn';cases hn'
    exact hinj n k b (l1 n ln) (l1 k lk) h1 h2
   ·simp [hal,hn]
  refine wp_mono (h code hc m m _ sat (Mem.le.refl _ _) htop (by simp)) ?_
  rintro e a' w' ⟨T',H',m1,rfl,hq,sat',hle,hL⟩
  have fin:retQ rs Hs.length X Hs' dead .ret T' H'→a'.defers=[]∧∃v,(results fn a'.tmps).run P m1.w = .ok v m1.w∧∃v' m',m'.w=m1.w∧Ending.returned v = .returned v'∧EndOK m Hs.length X Hs' dead v' m':=by
   rintro ⟨θ,t1,t2,t3,⟨x,hx,hsub⟩,hobs⟩
   obtain ⟨v,h1,h2⟩:=o_69 (P:=P) sat' fn x (by rw [hr];exact hx)
   have hρ:∀n,n<Hs'.length→(⟨fun i=>if i<Hs'.length then m1.ρ (θ.getD i 0) else none,m1.I,m1.w⟩:Mem).ρ n=m1.ρ (θ.getD n 0):=fun n hn'=>by simp [hn']
   refine ⟨sat'.defers,v,h1,v,⟨fun i=>if i<Hs'.length then m1.ρ (θ.getD i 0) else none,m1.I,m1.w⟩,rfl,rfl,⟨sat'.base.imm,fun n b hb'=>?_,sat'.base.tabs.mono (fun _ h=>h) (fun _ _=>rfl)⟩,?_,?_,fun n ob hdd hob=>?_,fun n i b hnd hid hn' hi' h3 h4=>?_,fun n hn'=>by simp [show ¬n<Hs'.length by omega],fun n b hn' hb'=>?_⟩
   ·simp only at hb'
    split at hb'
    ·exact sat'.base.dom _ b hb'
    ·cases hb'
   ·refine ⟨fun n b hb'=>?_,hle.I,hle.os,hle.tape,hle.output,hle.drawn,hle.size,hle.block,hle.shape,hle.imm,hle.newI,fun n b hb'=>?_⟩
    ·have hn':n<Hs.length:=by
      rcases Nat.lt_or_ge n Hs.length with h | h
      ·exact h
      ·rw [htop n h] at hb';cases hb'
     simp only [show n<Hs'.length by omega,if_true,t2 n hn']
     exact hle.ρ n b hb'
    ·simp only at hb'
     split at hb'
     ·rcases Nat.lt_or_ge n Hs.length with hlt | hge
      ·rw [t2 n hlt] at hb';exact hle.newρ n b hb'
      ·rcases hle.newρ _ b hb' with h3 | h3
       ·have hk:θ.getD n 0<Hs.length:=by
         rcases Nat.lt_or_ge (θ.getD n 0) Hs.length with h | h
         ·exact h
         ·rw [htop _ h] at h3;cases h3
        exact .inr (.inr ⟨_,hk,h3⟩)
       ·exact .inr h3
     ·cases hb'
   ·exact (V.rep_ren (m:=m1) (m':=⟨fun i=>if i<Hs'.length then m1.ρ (θ.getD i 0) else none,m1.I,m1.w⟩) (θ:=fun i=>θ.getD i 0) rfl rfl hρ X v lowx).1 (hsub m1 v h2)
   ·obtain ⟨ob1,k1,k2,k3⟩:=hobs n ob hdd hob
    obtain ⟨b,us,more,l1,l2,l3,l4,l5⟩:=sat'.obj _ ob1 k1
    have hn':n<Hs'.length:=by
     rcases Nat.lt_or_ge n Hs'.length with h | h
     ·exact h
     ·rw [List.getElem?_eq_none h] at hob;cases hob
    refine ⟨b,us,more,by simp only [hn',if_true];exact l1,by rw [←k2];exact l2,l3,?_,l5⟩
    exact (V.reps_ren (m:=m1) (m':=⟨fun i=>if i<Hs'.length then m1.ρ (θ.getD i 0) else none,m1.I,m1.w⟩) (θ:=fun i=>θ.getD i 0) rfl rfl hρ ob.c us (lowo ob (List.mem_of_getElem? hob))).1 (k3 m1 us l4)
   ·simp only [hn',hi',if_true] at h3 h4
    have lv:∀j,j∉dead→j<Hs'.length→live H' (θ.getD j 0):=fun j hjd hj=>by
     obtain ⟨ob1,k1,_⟩:=hobs j Hs'[j] hjd (by simp [hj])
     rw [live,k1];rfl
    have:=sat'.inj _ _ b (lv n hnd hn') (lv i hid hi') h3 h4
    exact t3 n i hnd hid (by omega) (by omega) this
   ·simp only at hb'
    split at hb'
    ·rename_i hnl
     rcases hle.newρ _ b hb' with h3 | h3 | ⟨k,h3,h4⟩
     ·have hk:θ.getD n 0<Hs.length:=by
       rcases Nat.lt_or_ge (θ.getD n 0) Hs.length with h | h
       ·exact h
       ·rw [htop _ h] at h3;cases h3
      by_cases hkd:θ.getD n 0∈dead
      ·exact .inr ⟨_,hk,hkd,h3⟩
      exfalso
      have e0:=t2 _ hk
      have:=t3 _ _ hkd (fun hd=>by have:=hold n hd;omega) (by omega) (by omega) e0
      omega
     ·exact .inl h3
     ·by_cases hkd:k∈dead
      ·exact .inr ⟨k,h3,hkd,h4⟩
      exfalso
      have lk:live H' k:=by
       obtain ⟨ob1,k1,_⟩:=hobs k Hs'[k] hkd (by simp [show k<Hs'.length by omega])
       rw [t2 k h3] at k1
       rw [live,k1];rfl
      have ln:live H' (θ.getD n 0):=by
       obtain ⟨ob1,k1,_⟩:=hobs n Hs'[n] (fun hd=>by have:=hold n hd;omega) (by simp [hnl])
       rw [live,k1];rfl
      have hkk:=sat'.inj _ _ b ln lk hb' (hle.ρ k b h4)
      have:=t3 n k (fun hd=>by have:=hold n hd;omega) hkd (by omega) (by omega) (by rw [hkk,t2 k h3])
      omega
    ·cases hb'
  cases e with
  | normal=>exact fin hq
  | ret=>exact fin hq
  | _=>exact hq.elim

def fnOf (P:Program) (f:FuncId):Option (C×List RV×Nat×Bool):=match P.funcs[f]? with
 | some fn=>match fn.body with
  | some b => some (resolveC P b, fn.results.toList.map (resolveR P), fn.ntmps, fn.name == "runtime.NumGoroutine")
  | none=>none
 | none=>none

theorem Eqn.of_fn {P:Program} {f:FuncId} {c:C} {rs:List RV} {nt:Nat} {args:List V} {Hs:List Ob} {X:V} {Hs':List Ob} {dead:List Nat} (hf:fnOf P f=some (c,rs,nt,false)) (hlen:Hs.length≤Hs'.length) (hold:∀n∈dead,n<Hs.length) (lowx:X.low Hs'.length=true) (lowo:∀ob∈Hs',V.lowl Hs'.length ob.c=true)
  (h:AW P Hs.length c (retQ rs Hs.length X Hs' dead) (args++List.replicate (nt-args.length) .junk) (Hs.map some)):EqnD P f args Hs X Hs' dead:=by
 unfold fnOf at hf
 split at hf
 ·rename_i fn hfn
  split at hf
  ·rename_i b hb
   simp only [Option.some.injEq,Prod.mk.injEq] at hf
   obtain ⟨h1,h2,h3,h4⟩:=hf
   exact Eqn.of_AW hfn h4 hb h1 h2 h3 hlen hold lowx lowo h
  ·cases hf
 ·cases hf

def retP (rs:List RV) (X:V):Exit→List V→List (Option Ob)→Prop
 | .normal,T,H | .ret,T,H=>∃x,outV T H rs=some x∧Sub1 x X
 | _,_,_=>False
abbrev V.plain (x:V):Prop:=x.low 0=true∧∀θ,x.ren θ=x

theorem Eqn.pure {P:Program} {f:FuncId} {c:C} {rs:List RV} {nt:Nat} {args:List V} {X:V} (hf:fnOf P f=some (c,rs,nt,false)) (hX:X.plain)
  (h:AW P 0 c (retP rs X) (args++List.replicate (nt-args.length) .junk) []):Eqn P f args [] X []:=by
 refine Eqn.of_fn hf (Nat.le_refl _) (by simp) hX.1 (by simp) ?_
 intro code hc m0 m a sat hle htop hL
 refine wp_mono (h code hc m0 m a sat hle htop hL) ?_
 rintro e a' w' ⟨T',H',m',rfl,hq,rest⟩
 refine ⟨T',H',m',rfl,?_,rest⟩
 cases e<;>first
  | exact hq.elim
  | (obtain ⟨x,h1,h2⟩:=hq;exact ⟨[],rfl,by simp,.of (by simp),⟨x,h1,by rw [hX.2];exact h2⟩,by simp⟩)

theorem CallS.pure {P:Program} {f:FuncId} {args argsC:List V} {H:List (Option Ob)} {K:V→List (Option Ob)→List Nat→List Nat→Prop} {X:V} (E:Eqn P f argsC [] X []) (hX:X.plain) (hl:V.lowl 0 argsC=true) (hr:∀θ,V.rens θ argsC=argsC) (hs:Subs args argsC) (h:K X H [] []):CallS P f args H K:=by
 refine .inl ⟨[],argsC,[],X,[],[],E,rfl,by simp,by simp,by simp,hl,by rw [hr];exact hs,?_⟩
 simpa [hX.2,putAll,killAll] using h

theorem CallS.pureF {P:Program} {f:FuncId} {args argsC:List V} {H:List (Option Ob)} {K:V→List (Option Ob)→List Nat→List Nat→Prop} {X:V} (n s:Nat) (ob:Ob) (ds:List D) (E:Eqn P f argsC [] X []) (hX:X.plain) (hl:V.lowl 0 argsC=true) (hr:∀θ,V.rens θ argsC=argsC) (hn:H.getD n none=some ob) (hd:ob.c=ds.map V.d) (hs:Subs (V.frzs n s ds args) argsC) (h:K X (H.set n none) [] [n]) (hT:Nat.blt ob.T 1000000=true:=by rfl):CallS P f args H K:=by
 refine .inr (.inl ⟨n,s,ob,ds,hn,Nat.le_of_ble_eq_true hT,hd,.inl ⟨[],argsC,[],X,[],[],E,rfl,by simp,by simp,by simp,hl,by rw [hr];exact hs,?_⟩⟩)
 simpa [hX.2,putAll,killAll] using h

attribute [simp] tagK tagV tagG seenOf iterV srcV eqK eqKs X.ev thenQ blockQ V.cells? D.cells putT mkAgg V.toDs setMany fillV intOf? repl bnd hiOf sliceS lenV minmaxI minmaxR RV.out outs outV retP V.ren V.rens V.low V.lowl  V.frz V.frzs D.isAgg glD frzH putAll killAll nameOf

theorem o_6a (x:D):(V.d x).plain:=⟨by simp [V.low],fun θ=>by simp [V.ren]⟩
end
section
open Go.RowKit
@[simp] theorem o_6b (q:Prop):need True q↔q:=by simp [need]
@[simp] theorem o_6c (x:V):Sub1 x x↔True:=⟨fun _=>trivial,fun _=>Sub1.refl x⟩
@[simp] theorem o_6d (x:List V):Subs x x↔True:=⟨fun _=>trivial,fun _=>Subs.refl x⟩
theorem Sub1.of {x y:V} (h:x=y):Sub1 x y:=h▸Sub1.refl x
theorem Sub1.int {k:IntKind} {a b:Int} (h:a=b):Sub1 (.d (.int k a)) (.d (.int k b)):=h▸Sub1.refl _
theorem Sub1.bool {a b:Bool} (h:a=b):Sub1 (.d (.bool a)) (.d (.bool b)):=h▸Sub1.refl _
theorem Sub1.nil:Sub1 (.d .nilsl) (.d (.sl 0 [])):=fun m v h=>by
 rw [V.rep_d] at h ⊢
 unfold D.rep at h ⊢
 subst h
 exact ⟨none,0,rfl,Nat.le_refl _,by unfold maxLen;omega,[],by simp,by simp,.inl ⟨rfl,rfl⟩⟩
theorem Sub1.sle:Sub1 (.d .sle) (.d (.sl 0 [])):=fun m v h=>by
 rw [V.rep_d] at h ⊢
 unfold D.rep at h ⊢
 obtain ⟨⟨b,o,s⟩,cap,rfl,h,h2⟩:=h
 refine ⟨_,cap,rfl,Nat.zero_le _,h,[],by simp,by simp,?_⟩
 rcases h2 with h2 | h2
 ·simp only at h2;subst h2;exact .inr ⟨b,o,rfl,.inl rfl,by simp⟩
 ·exact .inl ⟨h2,rfl⟩

theorem Sub1.sl0:Sub1 (.d .sl0) (.d (.sl 0 [])):=fun m v h=>by
 rw [V.rep_d] at h ⊢
 unfold D.rep at h ⊢
 obtain ⟨p,rfl⟩:=h
 exact ⟨p,0,rfl,Nat.le_refl _,by unfold maxLen;omega,[],by simp,by simp,.inl ⟨rfl,rfl⟩⟩

theorem AW.empty {P:Program} {L:Nat} {Q:Exit→List V→List (Option Ob)→Prop} {T:List V} {H:List (Option Ob)} {c:C} (s:Nat) (h0:T.getD s .junk = .d (.sl 0 [])) (h1:AW P L c Q (T.set s (.d .nilsl)) H) (h2:AW P L c Q (T.set s (.d .sle)) H):AW P L c Q T H:=by
 intro code hc m0 m a sat hle htop hL
 have hv:=sat.slots s
 rw [h0,V.rep_d] at hv
 unfold D.rep at hv
 obtain ⟨p,cap,hv,_,hcap,vs,_,h3,h4⟩:=hv
 have put:∀x:V,x.rep m (a.tmps.getD s undef)→Sat m a (T.set s x) H:=fun x hx=>by
  refine ⟨sat.base,fun i=>?_,sat.obj,sat.inj,sat.top,by simpa using sat.size,sat.defers⟩
  rw [List.getD_eq_getElem?_getD,List.getElem?_set]
  split
  ·rename_i e
   subst e
   split
   ·exact hx
   ·unfold V.rep;trivial
  ·rw [←List.getD_eq_getElem?_getD];exact sat.slots i
 cases p with
 | none =>
  have hc0:cap=0:=by
   rcases h4 with ⟨e,_⟩ | ⟨b,o,e,_⟩
   ·exact e
   ·cases e
  subst hc0
  exact h1 code hc m0 m a (put _ (by rw [V.rep_d];unfold D.rep;exact hv)) hle htop hL
 | some ad=>exact h2 code hc m0 m a (put _ (by rw [V.rep_d];unfold D.rep;exact ⟨ad,cap,hv,hcap,by rcases h4 with ⟨e,_⟩ | ⟨b,o,e,_⟩;exact .inr e;cases e;exact .inl rfl⟩)) hle htop hL

def wk1 (n:Nat) (x:V):V→Prop
 | .junk=>True
 | y=>Sub1 x y∧y.low n=true
def wk (n:Nat):List V→List V→Prop
 | [],[]=>True
 | x::l,y::r=>wk1 n x y∧wk n l r
 | _,_=>False
def wkH (n:Nat):List (Option Ob)→List (Option Ob)→Prop
 | _,[]=>True
 | _::l,none::r=>wkH n l r
 | some ob::l,some ob1::r=>(ob.T=ob1.T∧Subs ob.c ob1.c∧V.lowl n ob1.c=true)∧wkH n l r
 | _,_=>False

theorem o_6e {n:Nat} {x y:V} (h:wk1 n x y):Sub1 x y∧y.low n=true:=by
 unfold wk1 at h
 split at h
 ·exact ⟨Sub1.junk x,by simp [V.low]⟩
 ·exact h
theorem o_6f {n:Nat}:∀{l r:List V},wk n l r→r.length=l.length∧∀s,Sub1 (l.getD s .junk) (r.getD s .junk)∧(r.getD s .junk).low n=true
 | [],[],_=>⟨rfl,fun s=>by simp [V.low]⟩
 | x::l,y::r,h=>by
  obtain ⟨h1,h2⟩:=o_6f h.2
  refine ⟨by simp [h1],fun s=>?_⟩
  cases s with
  | zero=>exact o_6e h.1
  | succ s=>exact h2 s
theorem o_6g {n:Nat}:∀{l r:List (Option Ob)},wkH n l r→r.length≤l.length∧∀k ob1,r.getD k none=some ob1→∃ob,l.getD k none=some ob∧ob.T=ob1.T∧Subs ob.c ob1.c∧V.lowl n ob1.c=true
 | _,[],_=>⟨by simp,fun k ob1 h=>by simp at h⟩
 | [],none::r,h=>h.elim
 | [],some _::r,h=>h.elim
 | none::l,some _::r,h=>h.elim
 | x::l,none::r,h=>by
  have h':wkH n l r:=by cases x<;>exact h
  obtain ⟨h1,h2⟩:=o_6g h'
  refine ⟨by simp [h1],fun k ob1 hk=>?_⟩
  cases k with
  | zero=>simp at hk
  | succ k=>exact h2 k ob1 hk
 | some ob::l,some ob1::r,h=>by
  obtain ⟨h1,h2⟩:=o_6g h.2
  refine ⟨by simp [h1],fun k ob2 hk=>?_⟩
  cases k with
  | zero=>simp at hk;subst hk;exact ⟨ob,rfl,h.1⟩
  | succ k=>exact h2 k ob2 hk
theorem Weak.of {T T1:List V} {H H1:List (Option Ob)} (h:wk H1.length T T1) (h':wkH H1.length H H1):Weak T H T1 H1 :=
 ⟨(o_6f h).1,(o_6g h').1,(o_6f h).2,(o_6g h').2⟩

def C.dsts:C→List Nat
 | .seq a b=>a.dsts++b.dsts
 | .cond _ a b=>a.dsts++b.dsts
 | .block _ a=>a.dsts
 | .loop a=>a.dsts
 | .scope a=>a.dsts
 | .reg _ ops=>ops.filterMap (·.dst)
 | _=>[]
def junkI (ks:List Nat):Nat→List V→List V
 | _,[]=>[]
 | i,v::r=>(if ks.contains i then .junk else v)::junkI ks (i+1) r
def setS (T:List V):List (Nat×V)→List V
 | []=>T
 | (k,v)::r=>setS (T.set k v) r

attribute [simp] wk wk1 wkH C.dsts junkI setS

section
variable {P:Program} {L:Nat} {Q:Exit→List V→List (Option Ob)→Prop} {T:List V} {H:List (Option Ob)}

theorem AW.loopW {x:C} {α:Type} (T1:α→List V) (H1:α→List (Option Ob)) (R:α→Prop) (μ:α→Nat) (N:Nat) (hlen:∀a,(H1 a).length=N) (hL:L≤N) (a0:α) (hR:R a0) (h0:wk N T (T1 a0)) (h0':wkH N H (H1 a0))
  (h:∀a,R a→AW P L x (thenQ (fun T' H'=>∃a',R a'∧μ a'<μ a∧wk N T' (T1 a')∧wkH N H' (H1 a')) Q) (T1 a) (H1 a)):AW P L (.loop x) Q T H:=by
 refine AW.weak (T1:=T1 a0) (H1:=H1 a0) (Weak.of (by rw [hlen];exact h0) (by rw [hlen];exact h0')) (by rw [hlen];exact hL) ?_
 intro code hc m0 m a sat hle htop hL'
 cases code<;>simp [resolveC] at hc
 rename_i cx
 refine o_64 (fun k a w=>∃z:α,∃m,m.w=w∧k=μ z∧R z∧Sat m a (T1 z) (H1 z)∧m0.le m (· < L)∧L≤(H1 z).length) ?_ (μ a0) a m.w ⟨a0,m,rfl,rfl,hR,sat,hle,hL'⟩
 rintro k a w ⟨z,m,rfl,rfl,hz,sat,hle,hL⟩
 refine wp_mono (h z hz cx hc m0 m a sat hle htop hL) ?_
 rintro e a' w' ⟨T',H',m',rfl,hq,sat',hle',hL'⟩
 cases e with
 | normal =>
  obtain ⟨z',hz',hμ,hw1,hw2⟩:=hq
  have hWk:Weak T' H' (T1 z') (H1 z'):=Weak.of (by rw [hlen];exact hw1) (by rw [hlen];exact hw2)
  obtain ⟨m2,hm2,s2,l2,n2⟩:=Sat.weaken hWk sat' hle' htop (by rw [hlen];omega)
  exact ⟨μ z',hμ,z',m2,hm2,rfl,hz',s2,l2,n2⟩
 | _=>exact ⟨T',H',m',rfl,hq,sat',hle',hL'⟩
end


def setH (H:List (Option Ob)):List (Nat×Ob)→List (Option Ob)
 | []=>H
 | (k,o)::r=>setH (H.set k (some o)) r
attribute [simp] setH
theorem o_6h:∀(l:List (Nat×Ob)) (H:List (Option Ob)),(setH H l).length=H.length
 | [],_=>rfl
 | (k,o)::r,H=>by rw [setH,o_6h r];simp

theorem AW.loopT {P:Program} {L:Nat} {Q:Exit→List V→List (Option Ob)→Prop} {T:List V} {H:List (Option Ob)} {x:C} {α:Type} (N:Nat) (f:α→List (Nat×V)) (g:α→List (Nat×Ob)) (R:α→Prop) (μ:α→Nat) (a0:α) (hN:N≤H.length) (hL:L≤N) (hR:R a0)
  (h0:wk N T (setS (junkI x.dsts 0 T) (f a0))) (h0':wkH N H (setH (H.take N) (g a0)))
  (h:∀a,R a→AW P L x (thenQ (fun T' H'=>∃a',R a'∧μ a'<μ a∧wk N T' (setS (junkI x.dsts 0 T) (f a'))∧wkH N H' (setH (H.take N) (g a'))) Q) (setS (junkI x.dsts 0 T) (f a)) (setH (H.take N) (g a))):AW P L (.loop x) Q T H :=
 AW.loopW (fun a=>setS (junkI x.dsts 0 T) (f a)) (fun a=>setH (H.take N) (g a)) R μ N (fun a=>by rw [o_6h,List.length_take];omega) hL a0 hR h0 h0' h

theorem AW.cut {P:Program} {L:Nat} {Q:Exit→List V→List (Option Ob)→Prop} {T:List V} {H:List (Option Ob)} {x y:C} (N:Nat) (f:List (Nat×V)) (g:List (Nat×Ob)) (hN:N≤H.length) (hL:L≤N)
  (h1:AW P L x (thenQ (fun T' H'=>wk N T' (setS (junkI x.dsts 0 T) f)∧wkH N H' (setH (H.take N) g)) Q) T H) (h2:AW P L y Q (setS (junkI x.dsts 0 T) f) (setH (H.take N) g)):AW P L (.seq x y) Q T H:=by
 have hlen:(setH (H.take N) g).length=N:=by rw [o_6h,List.length_take];omega
 refine AW.seq ?_
 intro code hc m0 m a sat hle htop hL'
 refine wp_mono (h1 code hc m0 m a sat hle htop hL') ?_
 rintro e a' w' ⟨T',H',m',rfl,hq,rest⟩
 refine ⟨T',H',m',rfl,?_,rest⟩
 cases e with
 | normal =>
  obtain ⟨w1,w2⟩:=hq
  exact AW.weak (Weak.of (by rw [hlen];exact w1) (by rw [hlen];exact w2)) (by rw [hlen];exact hL) h2
 | _=>exact hq

theorem Subs.of {l r:List V} (h:l=r):Subs l r:=h▸Subs.refl l

theorem Eqn.extern {P : Program} {f : FuncId} {fn : Func} {e : Array Value → Sem Value} {args : List V} {X : V} (hf : P.funcs[f]? = some fn) (hname : (fn.name == "runtime.NumGoroutine") = false) (hb : fn.body.isNone = true) (hn : Extern.findNext fn = none) (he : Extern.find fn = some e) (hX : X.low 0 = true)
  (h:∀(m:Mem) (vs:List Value),V.reps m args vs→∃v,(e vs.toArray).run P m.w = .ok v m.w∧X.rep m v):Eqn P f args [] X []:=by
 refine ⟨Nat.le_refl _,by simp,hX,by simp,fun m vs mb hargs _ _ _=>.inl ?_⟩
 obtain ⟨v,h1,h2⟩:=h m vs hargs
 refine ⟨v,?_,h2,rfl⟩
 rw [run_callFunc_extern hf hname hb hn he,h1]
 rfl

theorem w64 {x:Int} (h0:-9223372036854775808≤x) (h1:x≤9223372036854775807):IntKind.i64.wrap x=x:=by rw [IntKind.wrap_i64];omega
theorem wu64 {x:Int} (h0:0≤x) (h1:x≤18446744073709551615):IntKind.u64.wrap x=x:=by rw [IntKind.wrap_u64];omega

def D.fits:D→Prop
 | .sl n _=>n≤9223372036854775807
 | .agg l=>fitsL l
 | _=>True
 where fitsL:List D→Prop
 | []=>True
 | x::l=>D.fits x∧fitsL l
end
section
open Go.RowKit
abbrev plainL (l:List V):Prop:=V.lowl 0 l=true∧∀θ,V.rens θ l=l
theorem o_6i (l:List D):plainL (l.map .d) :=
 ⟨by induction l<;>simp_all [V.lowl,V.low],fun θ=>by induction l<;>simp_all [V.rens,V.ren]⟩

mutual
theorem V.low_mono {n m:Nat} (h:n≤m):∀x:V,x.low n=true→x.low m=true
 | .d _,k=>by simp [V.low]
 | .junk,k=>by simp [V.low]
 | .p a _,k=>by simp [V.low] at k ⊢;omega
 | .row a _ _,k=>by simp [V.low] at k ⊢;omega
 | .own a _ _,k=>by simp [V.low] at k ⊢;omega
 | .mp a,k=>by simp [V.low] at k ⊢;omega
 | .ch a,k=>by simp [V.low] at k ⊢;omega
 | .agg l,k=>by simp only [V.low] at k ⊢;exact V.lowl_mono h l k
 | .tup l,k=>by simp only [V.low] at k ⊢;exact V.lowl_mono h l k
 | .fn _ l,k=>by simp only [V.low] at k ⊢;exact V.lowl_mono h l k
 | .fb _ l,k=>by simp only [V.low] at k ⊢;exact V.lowl_mono h l k
theorem V.lowl_mono {n m:Nat} (h:n≤m):∀l:List V,V.lowl n l=true→V.lowl m l=true
 | [],k=>by simp [V.lowl]
 | x::l,k=>by
  simp only [V.lowl,Bool.and_eq_true] at k ⊢
  exact ⟨V.low_mono h x k.1,V.lowl_mono h l k.2⟩
end

def retO (rs:List RV) (X:V) (ob:Ob):Exit→List V→List (Option Ob)→Prop
 | .normal,T,H | .ret,T,H=>(∃x,outV T H rs=some x∧Sub1 x X)∧∃ob1,H.getD 0 none=some ob1∧ob1.T=ob.T∧Subs ob1.c ob.c
 | _,_,_=>False
attribute [simp] retO

theorem Eqn.obj1 {P:Program} {f:FuncId} {c:C} {rs:List RV} {nt:Nat} {args:List V} {X:V} {ob ob':Ob} (hf:fnOf P f=some (c,rs,nt,false)) (hX:X.plain) (hO:plainL ob'.c)
  (h:AW P 1 c (retO rs X ob') (args++List.replicate (nt-args.length) .junk) [some ob]):Eqn P f args [ob] X [ob']:=by
 refine Eqn.of_fn hf (Nat.le_refl _) (by simp) (V.low_mono (by simp) _ hX.1) (by simp;exact V.lowl_mono (by simp) _ hO.1) ?_
 intro code hc m0 m a sat hle htop hL
 refine wp_mono (h code hc m0 m a sat hle htop hL) ?_
 rintro e a' w' ⟨T',H',m',rfl,hq,rest⟩
 refine ⟨T',H',m',rfl,?_,rest⟩
 cases e<;>first
  | exact hq.elim
  | (obtain ⟨⟨x,h1,h2⟩,ob1,h3,h4,h5⟩:=hq
     refine ⟨[0],rfl,fun i hi=>by simp at hi;subst hi;rfl,.of (by simp),⟨x,h1,by rw [hX.2];exact h2⟩,fun i ob _ hi=>?_⟩
     cases i with
     | zero=>simp at hi;subst hi;exact ⟨ob1,h3,h4,by rw [hO.2];exact h5⟩
     | succ i=>simp at hi)

def retN (rs:List RV) (ob:Ob):Exit→List V→List (Option Ob)→Prop
 | .normal,T,H | .ret,T,H=>∃n,outV T H rs=some (.p n 0)∧∃ob1,H.getD n none=some ob1∧ob1.T=ob.T∧Subs ob1.c ob.c
 | _,_,_=>False
attribute [simp] retN

theorem Eqn.new1 {P:Program} {f:FuncId} {c:C} {rs:List RV} {nt:Nat} {args:List V} {ob':Ob} (hf:fnOf P f=some (c,rs,nt,false)) (hO:plainL ob'.c)
  (h:AW P 0 c (retN rs ob') (args++List.replicate (nt-args.length) .junk) []):Eqn P f args [] (.p 0 0) [ob']:=by
 refine Eqn.of_fn hf (Nat.zero_le _) (by simp) (by simp [V.low]) (by simp;exact V.lowl_mono (by simp) _ hO.1) ?_
 intro code hc m0 m a sat hle htop hL
 refine wp_mono (h code hc m0 m a sat hle htop hL) ?_
 rintro e a' w' ⟨T',H',m',rfl,hq,rest⟩
 refine ⟨T',H',m',rfl,?_,rest⟩
 cases e<;>first
  | exact hq.elim
  | (obtain ⟨n,h1,ob1,h3,h4,h5⟩:=hq
     refine ⟨[n],rfl,fun i hi=>by simp at hi,.of (by simp),⟨_,h1,by simp [V.ren,Sub1.refl]⟩,fun i ob _ hi=>?_⟩
     cases i with
     | zero=>simp at hi;subst hi;exact ⟨ob1,h3,h4,by rw [hO.2];exact h5⟩
     | succ i=>simp at hi)

theorem CallS.obj1 {P:Program} {f:FuncId} {args argsC:List V} {H:List (Option Ob)} {K:V→List (Option Ob)→List Nat→List Nat→Prop} {X:V} {ob ob':Ob} (n:Nat) (E:Eqn P f argsC [ob] X [ob']) (hX:X.plain) (hO:plainL ob.c) (hO':plainL ob'.c)
  (hl:V.lowl 1 argsC=true) (hn:H.getD n none=some ob) (hs:Subs args (V.rens (nameOf [n] H.length) argsC)) (h:K X (H.set n (some ob')) [] [n]):CallS P f args H K:=by
 have hlt:n<H.length:=by
  rcases Nat.lt_or_ge n H.length with h | h
  ·exact h
  ·rw [List.getD_eq_getElem?_getD,List.getElem?_eq_none h] at hn;cases hn
 refine .inl ⟨[n],argsC,[ob],X,[ob'],[],E,rfl,by simp,by simp [hlt],fun i o hi=>?_,hl,hs,?_⟩
 ·cases i with
  | zero=>simp at hi;subst hi;exact ⟨V.lowl_mono (by simp) _ hO.1,by rw [hO.2];exact hn⟩
  | succ i=>simp at hi
 ·simpa [hX.2,hO'.2,putAll,killAll] using h

theorem CallS.new1 {P:Program} {f:FuncId} {args argsC:List V} {H:List (Option Ob)} {K:V→List (Option Ob)→List Nat→List Nat→Prop} {ob':Ob} (E:Eqn P f argsC [] (.p 0 0) [ob']) (hO':plainL ob'.c)
  (hl:V.lowl 0 argsC=true) (hr:∀θ,V.rens θ argsC=argsC) (hs:Subs args argsC) (h:K (.p H.length 0) (H++[some ob']) [] [H.length]):CallS P f args H K:=by
 refine .inl ⟨[],argsC,[],.p 0 0,[ob'],[],E,rfl,by simp,by simp,by simp,hl,by rw [hr];exact hs,?_⟩
 simpa [hO'.2,putAll,killAll,V.ren,nameOf] using h

def retX (rs:List RV) (X:V) (ob:Ob):Exit→List V→List (Option Ob)→Prop
 | .normal,T,H | .ret,T,H=>∃n,(∃x,outV T H rs=some x∧Sub1 x (X.ren fun _=>n))∧∃ob1,H.getD n none=some ob1∧ob1.T=ob.T∧Subs ob1.c ob.c
 | _,_,_=>False
attribute [simp] retX

structure Tag (K:V→List (Option Ob)→List Nat→List Nat→Prop) where
end
section
open Go.RowKit
def CallI (P:Program) (f:FuncId) (args:List V) (H:List (Option Ob)) [c:Inhabited (V→List (Option Ob)→List Nat→List Nat→Prop)]:Prop:=CallS P f args H c.default
theorem callI (P:Program) (f:FuncId) (args:List V) (H:List (Option Ob)) (K:V→List (Option Ob)→List Nat→List Nat→Prop):CallS P f args H K = @CallI P f args H ⟨K⟩:=rfl
theorem vopsN (P:Program) (draw:Bool) (K:List V→List (Option Ob)→Prop) (d:Option Nat) (a:A) (af:List Nat) (os:List O) (tr:List E) (T:List V) (H:List (Option Ob)) :
  vops P draw K (⟨d,a,none,af⟩::os) tr T H=a.step P T H fun x H' rd wr=>vops P draw K os (⟨a.slots,d,rd,wr,af⟩::tr) (putT T d x) H':=rfl
theorem vopsG (P:Program) (draw:Bool) (K:List V→List (Option Ob)→Prop) (d:Option Nat) (a:A) (s:Nat) (w:Bool) (af:List Nat) (os:List O) (tr:List E) (T:List V) (H:List (Option Ob)) :
  vops P draw K (⟨d,a,some (s,w),af⟩::os) tr T H=match T.getD s .junk with
   | .d (.bool b)=>if b=w then a.step P T H fun x H' rd wr=>vops P draw K os (⟨s::a.slots,d,rd,wr,af⟩::tr) (putT T d x) H' else vops P draw K os (⟨[s],d,[],[],af⟩::tr) (putT T d (.tup [])) H
   | .tup []=>vops P draw K os (⟨[s],d,[],[],af⟩::tr) (putT T d (.tup [])) H
   | _=>False:=by
 simp only [vops]
 generalize T.getD s .junk=v
 cases v with
 | d x =>
  cases x with
  | bool b=>by_cases h:b=w<;>simp [h]
  | _=>rfl
 | tup l=>cases l<;>rfl
 | _=>rfl
theorem vopsE0 (P:Program) (K:List V→List (Option Ob)→Prop) (tr:List E) (T:List V) (H:List (Option Ob)):vops P false K [] tr T H=K T H:=rfl
theorem vopsE1 (P:Program) (K:List V→List (Option Ob)→Prop) (tr:List E) (T:List V) (H:List (Option Ob)):vops P true K [] tr T H=need (okTrace tr=true) (K T H):=rfl
def sliceI (s:Nat) (x:V) (a b:Option Int) (mx:Option (Option Int)) [c:Inhabited (V→Prop)]:Prop:=sliceS s x a b mx c.default
theorem o_6j (P:Program) (T:List V) (H:List (Option Ob)) (K:V→List (Option Ob)→List Nat→List Nat→Prop) (s:Nat) (x:X) (lo hi mx:Option X) :
  A.step P T H K (.slice s x lo hi mx) = @sliceI s (x.ev T) (bnd T 0 lo) (hiOf T (x.ev T) mx.isSome hi) (mx.map fun c=>intOf? (c.ev T)) ⟨fun v=>K v H [] []⟩:=rfl
section
variable (s:Nat) (K:V→Prop) (a b:Int)
@[simp] theorem o_6k (n:Nat) (l:List D):@sliceI s (.d (.sl n l)) (some a) (some b) none ⟨K⟩=need (0≤a∧a≤b∧b≤n) (K (.d (.sl (b-a).toNat ((l.drop (a.toNat*s)).take ((b-a).toNat*s))))):=rfl
@[simp] theorem o_6l (n:Nat) (l:List D) (c:Int):@sliceI s (.d (.sl n l)) (some a) (some b) (some (some c)) ⟨K⟩=need (0≤a∧a≤b∧b≤c∧c≤n) (if a=0∧c=0 then K (.d .sl0) else if a=0∧b=c then K (.d (.slf b.toNat (l.take (b.toNat*s)))) else K (.d (.sl (b-a).toNat ((l.drop (a.toNat*s)).take ((b-a).toNat*s))))):=rfl
@[simp] theorem o_6m (m s' n:Nat):@sliceI s (.own m s' n) (some a) (some b) none ⟨K⟩=need (s'=s∧0≤a∧a≤b∧b≤n) (K (.row m (a.toNat*s) (b-a).toNat)):=rfl
@[simp] theorem o_6n (m o n:Nat):@sliceI s (.row m o n) (some a) (some b) none ⟨K⟩=need (0≤a∧a≤b∧b≤n) (K (.row m (o+a.toNat*s) (b-a).toNat)):=rfl
@[simp] theorem o_6o:@sliceI s (.d .nilsl) (some a) (some b) none ⟨K⟩=need (a=0∧b=0) (K (.d .nilsl)):=rfl
end
attribute [simp] vopsN vopsG vopsE0 vopsE1
attribute [simp ↓] callI o_6j A.step binInt binStr

class Fin (c:C) (e:outParam Exit):Prop where
 go:∀{P:Program} {L:Nat} {Q:Exit→List V→List (Option Ob)→Prop} {T:List V} {H:List (Option Ob)},Q e T H→AW P L c Q T H
instance : Fin .skip .normal := ⟨AW.skip⟩
instance : Fin .ret .ret := ⟨AW.ret⟩
instance (i : Nat) : Fin (.exit i) (.exit i) := ⟨AW.exit⟩
theorem AW.fin {P:Program} {L:Nat} {Q:Exit→List V→List (Option Ob)→Prop} {T:List V} {H:List (Option Ob)} {c:C} {e:Exit} [f:Fin c e] (h:Q e T H):AW P L c Q T H:=f.go h

class Plain (x:V):Prop where
 ok:x.plain
instance (x : D) : Plain (.d x) := ⟨o_6a x⟩
instance : Plain (.tup []) := ⟨rfl, fun _ => rfl⟩
instance (a b : D) : Plain (.tup [.d a, .d b]) := ⟨rfl, fun _ => rfl⟩
instance (a b c : D) : Plain (.tup [.d a, .d b, .d c]) := ⟨rfl, fun _ => rfl⟩
instance (a b c d : D) : Plain (.tup [.d a, .d b, .d c, .d d]) := ⟨rfl, fun _ => rfl⟩
section
variable {P:Program} {f:FuncId} {args argsC:List V} {H:List (Option Ob)} {K:V→List (Option Ob)→List Nat→List Nat→Prop} {X:V}
theorem CallS.pu (E:Eqn P f argsC [] X []) [hX:Plain X] (h:K X H [] []) (hl:V.lowl 0 argsC=true:=by rfl) (hr:∀θ,V.rens θ argsC=argsC:=by exact fun _=>rfl) (hs:Subs args argsC:=by exact Subs.refl _):CallS P f args H K:=CallS.pure E hX.ok hl hr hs h
theorem CallS.pf (n s:Nat) (ob:Ob) (ds:List D) (E:Eqn P f argsC [] X []) [hX:Plain X] (hs:V.frzs n s ds args=argsC) (h:K X (H.set n none) [] [n]) (hl:V.lowl 0 argsC=true:=by rfl) (hr:∀θ,V.rens θ argsC=argsC:=by exact fun _=>rfl) (hn:H.getD n none=some ob:=by rfl) (hd:ob.c=ds.map V.d:=by simp) (hT:Nat.blt ob.T 1000000=true:=by rfl):CallS P f args H K:=CallS.pureF n s ob ds E hX.ok hl hr hn hd (Subs.of hs) h hT
theorem CallS.o1 {ob ob':Ob} (n:Nat) (E:Eqn P f argsC [ob] X [ob']) [hX:Plain X] (h:K X (H.set n (some ob')) [] [n]) (hO:plainL ob.c:=by exact ⟨rfl,fun _=>rfl⟩) (hO':plainL ob'.c:=by exact ⟨rfl,fun _=>rfl⟩)
  (hl:V.lowl 1 argsC=true:=by rfl) (hn:H.getD n none=some ob:=by rfl) (hs:args=V.rens (nameOf [n] H.length) argsC:=by simp):CallS P f args H K:=CallS.obj1 n E hX.ok hO hO' hl hn (Subs.of hs) h
end
end
section
open Go.RowKit
theorem AW.mono {P:Program} {L:Nat} {Q Q':Exit→List V→List (Option Ob)→Prop} {T:List V} {H:List (Option Ob)} {c:C} (h:AW P L c Q T H) (hQ:∀e T H,Q e T H→Q' e T H):AW P L c Q' T H:=by
 intro code hc m0 m a sat hle htop hL
 refine wp_mono (h code hc m0 m a sat hle htop hL) ?_
 rintro e a' w' ⟨T',H',m',rfl,hq,rest⟩
 exact ⟨T',H',m',rfl,hQ _ _ _ hq,rest⟩
end
section
open Go.RowKit

mutual
theorem V.rep_rent {m m':Mem} {θ:Nat→Nat} (hI:m'.I=m.I) (hw:m'.w=m.w) (hρ:∀n,m'.ρ n=m.ρ (θ n)):∀(x:V) (v:Value),(x.ren θ).rep m v↔x.rep m' v
 | .d x,v=>by simp only [V.ren,V.rep,hI,hw]
 | .agg l,v=>by
  simp only [V.ren,V.rep]
  exact exists_congr fun vs=>and_congr Iff.rfl (and_congr Iff.rfl (V.reps_rent hI hw hρ l vs))
 | .tup l,v=>by
  simp only [V.ren,V.rep]
  exact exists_congr fun vs=>and_congr Iff.rfl (V.reps_rent hI hw hρ l vs)
 | .p n off,v=>by simp only [V.ren,V.rep,hρ n]
 | .row n off len,v=>by simp only [V.ren,V.rep,hρ n]
 | .own n s len,v=>by simp only [V.ren,V.rep,hρ n,hw]
 | .mp n,v=>by simp only [V.ren,V.rep,hρ n]
 | .ch n,v=>by simp only [V.ren,V.rep,hρ n]
 | .fn f l,v=>by
  simp only [V.ren,V.rep]
  exact exists_congr fun vs=>and_congr Iff.rfl (V.reps_rent hI hw hρ l vs)
 | .fb f l,v=>by
  simp only [V.ren,V.rep]
  exact exists_congr fun vs=>and_congr Iff.rfl (V.reps_rent hI hw hρ l vs)
 | .junk,v=>by simp only [V.ren,V.rep]
theorem V.reps_rent {m m':Mem} {θ:Nat→Nat} (hI:m'.I=m.I) (hw:m'.w=m.w) (hρ:∀n,m'.ρ n=m.ρ (θ n)):∀(l:List V) (vs:List Value),V.reps m (V.rens θ l) vs↔V.reps m' l vs
 | [],vs=>by simp only [V.rens,V.reps]
 | x::l,vs=>by
  simp only [V.rens,V.reps]
  exact exists_congr fun v=>exists_congr fun r=>and_congr Iff.rfl (and_congr (V.rep_rent hI hw hρ x v) (V.reps_rent hI hw hρ l r))
end

mutual
theorem V.ren_inv {θ:Nat→Nat} (h:∀n,θ (θ n)=n):∀x:V,(x.ren θ).ren θ=x
 | .d _ | .junk=>by simp only [V.ren]
 | .p _ _ | .row _ _ _ | .own _ _ _ | .mp _ | .ch _=>by simp only [V.ren,h]
 | .agg l | .tup l | .fn _ l | .fb _ l=>by simp only [V.ren,V.rens_inv h l]
theorem V.rens_inv {θ:Nat→Nat} (h:∀n,θ (θ n)=n):∀l:List V,V.rens θ (V.rens θ l)=l
 | []=>by simp only [V.rens]
 | x::l=>by simp only [V.rens,V.ren_inv h x,V.rens_inv h l]
end

theorem o_6p (θ:Nat→Nat):∀l:List V,(V.rens θ l).length=l.length
 | []=>by simp only [V.rens,List.length_nil]
 | x::l=>by simp only [V.rens,List.length_cons,o_6p θ l]
theorem o_6q (θ:Nat→Nat):∀(l:List V) (s:Nat),(V.rens θ l).getD s .junk=(l.getD s .junk).ren θ
 | [],s=>by simp only [V.rens,List.getD_nil,V.ren]
 | x::l,0=>by simp only [V.rens,List.getD_cons_zero]
 | x::l,s+1=>by simp only [V.rens,List.getD_cons_succ,o_6q θ l s]

def sw (i j n:Nat):Nat:=if n=i then j else if n=j then i else n
theorem o_6r (i j n:Nat):sw i j (sw i j n)=n:=by
 unfold sw
 split<;>(try split)<;>(try split)<;>omega
def Ob.sw (i j:Nat) (ob:Ob):Ob:=⟨ob.T,V.rens (Am.sw i j) ob.c⟩
def swT (i j:Nat) (T:List V):List V:=V.rens (sw i j) T
def swH (i j:Nat) (H:List (Option Ob)):List (Option Ob):=(((H.set i (H.getD j none)).set j (H.getD i none))).map (Option.map (Ob.sw i j))

theorem o_6s (i j:Nat) (H:List (Option Ob)):(swH i j H).length=H.length:=by simp [swH]
theorem o_6t {i j:Nat} {H:List (Option Ob)} (hi:i<H.length) (hj:j<H.length) (n:Nat):(swH i j H).getD n none=(H.getD (sw i j n) none).map (Ob.sw i j):=by
 simp only [swH,List.getD_eq_getElem?_getD,List.getElem?_map,List.getElem?_set,List.length_set,sw]
 by_cases h1:n=j
 ·subst h1
  by_cases h2:n=i
  ·subst h2;simp [hj]
  ·simp [h2,hj]
 ·by_cases h2:n=i
  ·subst h2
   have:¬j=n:=fun e=>h1 e.symm
   simp [this,hi]
  ·have e1:¬j=n:=fun e=>h1 e.symm
   have e2:¬i=n:=fun e=>h2 e.symm
   simp [h1,h2,e1,e2]
   cases H[n]?<;>simp

theorem Sat.swap {L:Nat} {m0 m:Mem} {a:Act} {T:List V} {H:List (Option Ob)} (sat:Sat m a T H) {i j:Nat} (hi:i<H.length) (hj:j<H.length) (hLi:L≤i) (hLj:L≤j) (hle:m0.le m (· < L)) (htop:∀n,L≤n→m0.ρ n=none) :
  ∃m',m'.w=m.w∧Sat m' a (swT i j T) (swH i j H)∧m0.le m' (· < L):=by
 have hρ:∀n,(⟨fun n=>m.ρ (sw i j n),m.I,m.w⟩:Mem).ρ n=m.ρ (sw i j n):=fun n=>rfl
 have hlow:∀n,n<L→sw i j n=n:=fun n hn=>by unfold sw;split<;>(try split)<;>omega
 have hlv:∀n,live (swH i j H) n→live H (sw i j n):=fun n hn=>by
  rw [live,o_6t hi hj] at hn
  rw [live]
  cases h:H.getD (sw i j n) none with
  | none=>rw [h] at hn;cases hn
  | some ob=>rfl
 have hinj:∀n k,sw i j n=sw i j k→n=k:=fun n k h=>by rw [←o_6r i j n,h,o_6r]
 refine ⟨⟨fun n=>m.ρ (sw i j n),m.I,m.w⟩,rfl,⟨⟨sat.base.imm,fun n b hb=>sat.base.dom _ b hb,sat.base.tabs.mono (fun _ h=>h) (fun _ _=>rfl)⟩,fun s=>?_,fun n ob h=>?_,fun n k b hn hk h1 h2=>hinj _ _ (sat.inj _ _ b (hlv n hn) (hlv k hk) h1 h2),fun n hn=>?_,?_,sat.defers⟩,?_⟩
 ·rw [swT,o_6q]
  refine (V.rep_rent (θ:=sw i j) (m:=m) (m':=⟨fun n=>m.ρ (sw i j n),m.I,m.w⟩) rfl rfl hρ _ _).1 ?_
  rw [V.ren_inv (o_6r i j)]
  exact sat.slots s
 ·rw [o_6t hi hj] at h
  obtain ⟨ob0,h0,rfl⟩:=Option.map_eq_some_iff.1 h
  obtain ⟨b,vs,more,k1,k2,k3,k4,k5⟩:=sat.obj _ ob0 h0
  refine ⟨b,vs,more,k1,k2,k3,?_,k5⟩
  refine (V.reps_rent (θ:=sw i j) (m:=m) (m':=⟨fun n=>m.ρ (sw i j n),m.I,m.w⟩) rfl rfl hρ _ _).1 ?_
  simp only [Ob.sw]
  rw [V.rens_inv (o_6r i j)]
  exact k4
 ·rw [o_6s] at hn
  show m.ρ (sw i j n)=none
  rw [show sw i j n=n by unfold sw;split<;>(try split)<;>omega]
  exact sat.top n hn
 ·rw [swT,o_6p];exact sat.size
 ·refine ⟨fun n b hb=>?_,hle.I,hle.os,hle.tape,hle.output,hle.drawn,hle.size,hle.block,hle.shape,hle.imm,hle.newI,fun n b hb=>?_⟩
  ·rcases Nat.lt_or_ge n L with hn | hn
   ·show m.ρ (sw i j n)=some b
    rw [hlow n hn];exact hle.ρ n b hb
   ·rw [htop n hn] at hb;cases hb
  ·rcases hle.newρ (sw i j n) b hb with h | h | h
   ·rcases Nat.lt_or_ge (sw i j n) L with hn | hn
    ·have:=hlow _ hn
     rw [o_6r] at this
     exact .inl (by rw [this];exact h)
    ·rw [htop _ hn] at h;cases h
   ·exact .inr (.inl h)
   ·exact .inr (.inr h)

section
variable {P:Program} {L:Nat} {Q:Exit→List V→List (Option Ob)→Prop} {T:List V} {H:List (Option Ob)}
end
end
section
open Go.RowKit
def obIs (H:List (Option Ob)) (n:Nat) (ob:Ob):Prop:=∃ob1,H.getD n none=some ob1∧ob1.T=ob.T∧Subs ob1.c ob.c
def retO3 (rs:List RV) (X:V) (a b c:Ob):Exit→List V→List (Option Ob)→Prop
 | .normal,T,H | .ret,T,H=>(∃x,outV T H rs=some x∧Sub1 x X)∧obIs H 0 a∧obIs H 1 b∧obIs H 2 c
 | _,_,_=>False
attribute [simp] retO3 obIs
end
end Go.Proofs.YtdakiocgijlgiaaGreatDoor.Am
