/- Parts of the proof: ScE, ScF, ScG, ScH, ScJ, ScW, ScY, LwA, ScK, ScL, ScN, LwB, LwC, LwD, LwE, LwF, LwG, LwH, TabS, SlL, SpL. -/
import Derived.Test.YtdakiocgijlgiaaGreatDoorPd
set_option linter.unusedVariables false
set_option linter.unusedSimpArgs false
set_option maxRecDepth 100000
namespace Go.Proofs.YtdakiocgijlgiaaGreatDoor.Am
section
open Go.RowKit
theorem o_s9:Eqn Tryz.prog o_cd [.d (.str (bst [45]))] [] (.tup [.d .nilsl,.d (.bool true)]) []:=by
 refine Eqn.pure o_cf (o_fm _ _) ?_
 refine cc (c':=?z260) ?_ ?_
 case refine_1=>cbv<;>exact rfl
 have h:((bst [45]).toList==[45])=true:=by rw [o_q2];rfl
 refine A10 h ?_;try with_reducible exact tt
theorem o_sa (s:List Nat) (hs:∀x∈s,x<256) (hl:s.length≤10000000):∃r:List UInt8,Eqn Tryz.prog o_b1 [.d (.str (bst s)),.d (.str digS)] [] (.d (.str ⟨r.toArray⟩)) []∧(r=[]↔∀c∈s,(undig c).isSome=true):=by
 refine ⟨_,o_p6 (bst s) digS (by rw [o_gj];omega) (by decide) ?_,?_⟩
 ·intro j b hb
  have:∀b∈digS.data.toList,b.toNat<128:=by decide
  exact this b (List.mem_of_getElem? hb)
 ·exact o_rt s hs
set_option maxHeartbeats 4000000 in
theorem o_sb (s:List Nat) (hs:∀x∈s,x<256) (hl:s.length≤10000000) (h1:s≠[45]) (h2:s=[]∨unhexN s=none):Eqn Tryz.prog o_cd [.d (.str (bst s))] [] (.tup [.d .nilsl,.d (.bool false)]) []:=by
 refine Eqn.pure o_cf (o_fm _ _) ?_
 have hD:(⟨#[48,49,50,51,52,53,54,55,56,57,97,98,99,100,101,102]⟩:ByteArray)=digS:=rfl
 refine cc (c':=?z261) ?_ ?_
 case refine_1=>cbv<;>exact rfl
 try simp only [hD]
 obtain ⟨r,ht,hr⟩:=o_sa s hs hl
 have q1:((bst s).toList==[45])=false:=by
  rw [o_q2,beq_eq_false_iff_ne]
  exact fun h=>h1 (o_oo (b:=[45]) hs (by decide) h)
 have q2:=o_q3 s
 have q3:(⟨r.toArray⟩:ByteArray).toList.isEmpty=r.isEmpty:=by rw [Lib.toList_data]
 have hz:=o_gj s
 by_cases h0:s=[]
 ·have q4:s.isEmpty=true:=by rw [h0];rfl
  refine A10 (fs q1 (fs q2 q4)) ?_;try with_reducible exact tt
 have q4:s.isEmpty=false:=by cases s<;>simp_all
 have w2:IntKind.i64.wrap (s.length:Int)=s.length:=w64 (by omega) (by omega)
 have hm:((s.length:Nat):Int).tmod 2=((s.length%2:Nat):Int):=by rw [Int.tmod_eq_emod_of_nonneg (by omega)];rfl
 by_cases hp:s.length%2=1
 ·have hm1:((s.length:Nat):Int).tmod 2=1:=by rw [hm,hp];rfl
  have hm2:((s.length:Nat):Int)%2=1:=by omega
  refine A10 (fs q1 (fs q2 (fs q4 (fs hz (fs hm1 hm2))))) ?_;try with_reducible exact tt
 ·have hm1:((s.length:Nat):Int).tmod 2=0:=by rw [hm,show s.length%2=0 by omega];rfl
  have hm2:((s.length:Nat):Int)%2=0:=by omega
  have hrn:r.isEmpty=false:=by
   cases r with
   | nil =>
    exfalso
    obtain ⟨b,hb⟩:=(o_rv s).2 ⟨by omega,hr.1 rfl⟩
    rcases h2 with h2 | h2
    ·exact h0 h2
    ·rw [h2] at hb;cases hb
   | cons x r=>rfl
  refine A11 (fs q1 (fs q2 (fs q3 (fs q4 (fs hz (fs hm1 (fs hm2 hrn))))))) ht ?_;try with_reducible exact tt
theorem o_sc:((List.range 16).all fun x=>(List.range 16).all fun y=>decide (bits BinOp.or IntKind.i64 ((x:Int)*16) (y:Int)=((x*16+y:Nat):Int)))=true:=by kernel_rfl
theorem or16 (x y:Nat) (hx:x<16) (hy:y<16):bits BinOp.or IntKind.i64 ((x:Int)*16) (y:Int)=((x*16+y:Nat):Int):=by
 have:=List.all_eq_true.1 (List.all_eq_true.1 o_sc x (by simpa using hx)) y (by simpa using hy)
 simpa using this
theorem o_sd (s:List Nat) (hs:∀x∈s,x<256) (i:Nat) (hi:i<s.length):((bst s).data[i]?.getD 0).toNat=s.getD i 0:=by
 have h:(bst s).data[i]?=some (UInt8.ofNat s[i]):=by
  rw [←Array.getElem?_toList,o_ob];unfold u8l;rw [List.getElem?_map,List.getElem?_eq_getElem hi];rfl
 rw [h,Option.getD_some,o_od _ (hs _ (List.getElem_mem ..)),List.getD_eq_getElem?_getD,List.getElem?_eq_getElem hi];rfl
set_option maxHeartbeats 8000000 in
theorem o_se (s b:List Nat) (hs:∀x∈s,x<256) (hl:s.length≤10000000) (h0:s≠[]) (h2:unhexN s=some b):Eqn Tryz.prog o_cd [.d (.str (bst s))] [] (.tup [.d (.sl b.length (b.map fun n:Nat=>.int .u8 n)),.d (.bool true)]) []:=by
 refine Eqn.pure o_cf (o_fm _ _) ?_
 have hD:(⟨#[48,49,50,51,52,53,54,55,56,57,97,98,99,100,101,102]⟩:ByteArray)=digS:=rfl
 refine cc (c':=?z262) ?_ ?_
 case refine_1=>cbv<;>exact rfl
 try simp only [hD]
 obtain ⟨r,ht,hr⟩:=o_sa s hs hl
 have hev:=o_ru s b h2
 have hal:=(o_rv s).1 ⟨b,h2⟩
 have hb:=(o_o3 s b h2).2
 have q1:((bst s).toList==[45])=false:=by
  rw [o_q2,beq_eq_false_iff_ne]
  intro h
  have:=o_oo (b:=[45]) hs (by decide) h
  rw [this] at hev;simp at hev;omega
 have q2:=o_q3 s
 have q3:(⟨r.toArray⟩:ByteArray).toList.isEmpty=r.isEmpty:=by rw [Lib.toList_data]
 have hz:=o_gj s
 have q4:s.isEmpty=false:=by cases s<;>simp_all
 have hm1:((s.length:Nat):Int).tmod 2=0:=by rw [Int.tmod_eq_emod_of_nonneg (by omega)];omega
 have hm2:((s.length:Nat):Int)%2=0:=by omega
 have hre:r=[]:=hr.2 hal.2
 have hrn:r.isEmpty=true:=by rw [hre];rfl
 refine A11 (fs q1 (fs q2 (fs q3 (fs q4 (fs hz (fs hm1 (fs hm2 hrn))))))) ht ?_;try with_reducible exact tt
 have hb0:b≠[]:=by rintro rfl;exact h0 (List.eq_nil_of_length_eq_zero (by simpa using hev))
 have hbl:0<b.length:=List.length_pos_iff.2 hb0
 refine AW.loopG (α:=Nat) (fun i=>setS (List.replicate 43 .junk) [(0,.d (.str (bst s))),(4,if i=0 then .d .nilsl else .own 0 1 i),(5,.d (.int .i64 (2*i:Nat)))]) (fun i=>if i=0 then [] else [some (byO (b.take i))]) (fun i=>i≤b.length) (fun i=>b.length-i) 0 ?_ (Nat.zero_le _) ?_ ?_ ?_
 ·intro i _;exact Nat.zero_le _
 ·simp
 ·simp
 rintro i hi
 by_cases hib:i<b.length
 ·have hi1:((2*i:Nat):Int)<s.length:=by omega
  obtain ⟨x,y,k1,k2,k3,k4,k5⟩:=o_rw i s b h2 hib
  have g1:=o_sd s hs (2*i) (by omega)
  have g2:=o_sd s hs (2*i+1) (by omega)
  have c1:=hs (s[2*i]'(by omega)) (List.getElem_mem ..)
  have c2:=hs (s[2*i+1]'(by omega)) (List.getElem_mem ..)
  have d1:s.getD (2*i) 0=s[2*i]'(by omega):=by rw [List.getD_eq_getElem?_getD,List.getElem?_eq_getElem (by omega)];rfl
  have d2:s.getD (2*i+1) 0=s[2*i+1]'(by omega):=by rw [List.getD_eq_getElem?_getD,List.getElem?_eq_getElem (by omega)];rfl
  rw [←d1] at c1
  rw [←d2] at c2
  clear d1 d2
  generalize s.getD (2*i) 0=C1 at *
  generalize s.getD (2*i+1) 0=C2 at *
  have i1:=o_p1 digS C1 c1
  have i2:=o_p1 digS C2 c2
  rw [show digS.data.toList=u8l digN from rfl,o_rn C1 c1 x k1] at i1
  rw [show digS.data.toList=u8l digN from rfl,o_rn C2 c2 y k2] at i2
  have w1:IntKind.i64.wrap ((x:Int)*16)=(x:Int)*16:=w64 (by omega) (by omega)
  have w2:=or16 x y k4 k5
  have w3:IntKind.u8.wrap ((x*16+y:Nat):Int)=((x*16+y:Nat):Int):=by rw [IntKind.wrap_u8];omega
  have w4:IntKind.i64.wrap (((2*i:Nat):Int)+1)=((2*i+1:Nat):Int):=by rw [w64 (by omega) (by omega)];omega
  have w5:IntKind.i64.wrap (((2*i:Nat):Int)+2)=((2*(i+1):Nat):Int):=by rw [w64 (by omega) (by omega)];omega
  rw [←k3] at w2 w3
  have hsn:=List.take_succ_eq_append_getElem hib
  have hby:byV (b.take (i+1))=byV (b.take i)++[.d (.int .u8 (b[i]:Nat))]:=by rw [hsn];exact o_pi _ [b[i]]
  have htl:(b.take i).length=i:=by rw [List.length_take];omega
  generalize b[i]=z at *
  generalize hK:2*i=K at *
  by_cases hi0:i=0
  ·rw [if_pos hi0,if_pos hi0]
   simp
   refine A12 (fs hi1 (fs g1 (fs g2 (fs w1 (fs w2 (fs w3 (fs w4 (fs w5 hz)))))))) i1 i2 ?_;try with_reducible exact tt
   have hb1:byV (b.take 1)=[.d (.int .u8 z)]:=by rw [hi0] at hby;exact hby
   refine ⟨i+1,0,1,by simp,by omega,by omega,?_,?_⟩
   ·simp [swT,swH,sw,Ob.sw,V.ren,V.rens,hi0]
   ·simp [swT,swH,sw,Ob.sw,V.ren,V.rens,byO,hby,hi0,hb1]
  ·rw [if_neg hi0,if_neg hi0]
   have hlen:(byV (b.take i)).length=i:=by rw [o_ph,htl]
   have hk:(i+1)*1≤140737488355328:=by omega
   simp [byO]
   refine A12 (fs hi1 (fs g1 (fs g2 (fs w1 (fs w2 (fs w3 (fs w4 (fs w5 (fs hz (fs hlen hk)))))))))) i1 i2 ?_;try with_reducible exact tt
   refine ⟨i+1,0,2,by simp,by omega,by omega,?_,?_⟩
   ·simp [swT,swH,sw,Ob.sw,V.ren,V.rens]
   ·simp [swT,swH,sw,Ob.sw,V.ren,V.rens,byO,hby]
    all_goals (rw [←hby,o_pg];exact ⟨Subs.refl _,o_pf _ _⟩)
 ·have hib2:i=b.length:=by omega
  have hz0:¬i=0:=by omega
  rw [if_neg hz0,if_neg hz0]
  have htk:b.take i=b:=List.take_of_length_le (by omega)
  rw [htk]
  have hi1:¬((2*i:Nat):Int)<s.length:=by omega
  rw [hib2] at hi1 ⊢
  generalize 2*b.length=K at *
  refine AW.freeze 0 1 (byO b) (b.map fun n:Nat=>.int .u8 n) rfl (by simp [byO,byV]) ?_
  have htt:(b.map fun n:Nat=>D.int .u8 n).take b.length=b.map fun n:Nat=>.int .u8 n:=List.take_of_length_le (by simp)
  simp [byO,htt]
  refine A10 (fs hi1 hz) ?_;try with_reducible exact tt
end
section
open Go.RowKit
def numsD (l:List Int):D:=if l=[] then .nilsl else .sl l.length (l.map fun n:Int=>.int .i64 n)
def bytesD (l:List Nat):D:=if l=[] then .nilsl else .sl l.length (l.map fun n:Nat=>.int .u8 n)
def cmdA (c:CmdM):D:=.agg (cmdD c (numsD c.nums) (bytesD c.bytes))
def J8:V:=.agg [.junk,.junk,.junk,.junk,.junk,.junk,.junk,.junk]
theorem o_sf {m:Mem}:∀(n:Nat) (vs:List Value),vs.length=n→V.reps m (List.replicate n .junk) vs
 | 0,vs,h=>by simpa using h
 | n+1,vs,h=>by
  rcases vs with _ | ⟨v,r⟩
  ·simp at h
  ·exact V.reps_cons.2 ⟨by unfold V.rep;trivial,o_sf n r (by simpa using h)⟩
theorem sub8D (l:List D) (h:l.length=8):Sub1 (.d (.agg l)) J8:=by
 intro m v hv
 rw [V.rep_d] at hv
 unfold D.rep at hv
 obtain ⟨vs,h1,h2,h3⟩:=hv
 unfold J8 V.rep
 exact ⟨vs,h1,h2,o_sf 8 vs (by rw [D.reps_len h3,h])⟩
theorem sub8V (l:List V) (h:l.length=8):Sub1 (.agg l) J8:=by
 intro m v hv
 unfold V.rep at hv
 obtain ⟨vs,h1,h2,h3⟩:=hv
 unfold J8 V.rep
 exact ⟨vs,h1,h2,o_sf 8 vs (by rw [V.reps_len h3,h])⟩
theorem o_sg {a b c:V} (h:Sub1 a b):Sub1 (.tup [a,c]) (.tup [b,c]):=by
 intro m v hv
 unfold V.rep at hv ⊢
 obtain ⟨vs,h1,h2⟩:=hv
 obtain ⟨x,y,rfl,h3,h4⟩:=reps2 h2
 exact ⟨_,h1,V.reps_cons.2 ⟨h m x h3,V.reps_cons.2 ⟨h4,V.reps_nil.2 rfl⟩⟩⟩
theorem o_sh (b:Bool):(V.tup [J8,.d (.bool b)]).plain:=⟨by simp [J8,V.low,V.lowl],fun θ=>by simp [J8,V.ren,V.rens]⟩
theorem o_si (ws:List (List Nat)) (i:Nat) (h:i<ws.length):(strD ws)[i]'(by simpa using h) = .str (bst ws[i]):=by simp [strD]
structure WsOK (ws:List (List Nat)):Prop where
 b:∀w∈ws,∀x∈w,x<256
 l:∀w∈ws,w.length≤1000000
 n:ws.length≤1000000
theorem o_sj (w:List Nat) (rest:List (List Nat)) (hw:WsOK (w::rest)) (h:opN w=0) :
  Eqn Tryz.prog o_ca [.d (.sl (rest.length+1) (.str (bst w)::strD rest))] [] (.tup [J8,.d (.bool false)]) []:=by
 refine Eqn.pure o_cc (o_sh _) ?_
 refine cc (c':=?z263) ?_ ?_
 case refine_1=>cbv<;>exact rfl
 have ho:=o_rz w (hw.b w (by simp))
 rw [h] at ho
 refine A01 ho ?_;try with_reducible exact tt
 exact o_sg (sub8D _ rfl)
theorem o_sk (w:List Nat) (rest:List (List Nat)) (hw:WsOK (w::rest)) (h:opN w=8) (hr:rest.length≠1) :
  Eqn Tryz.prog o_ca [.d (.sl (rest.length+1) (.str (bst w)::strD rest))] [] (.tup [J8,.d (.bool false)]) []:=by
 refine Eqn.pure o_cc (o_sh _) ?_
 refine cc (c':=?z264) ?_ ?_
 case refine_1=>cbv<;>exact rfl
 have ho:=o_rz w (hw.b w (by simp))
 rw [h] at ho
 have h1:¬(rest.length:Int)=1:=by omega
 have h2:((rest.length:Int)+1-1).toNat=rest.length:=by omega
 refine A11 (fs h1 (fs h2 hr)) ho ?_;try with_reducible exact tt
 trace_state
 exact o_sg (sub8D _ rfl)
theorem o_sl (w:List Nat) (hw:WsOK [w,[45]]) (h:opN w=8) :
  Eqn Tryz.prog o_ca [.d (.sl 2 [.str (bst w),.str (bst [45])])] [] (.tup [.d (cmdA { CmdM.zero with op:=8 }),.d (.bool true)]) []:=by
 refine Eqn.pure o_cc (o_fm _ _) ?_
 refine cc (c':=?z265) ?_ ?_
 case refine_1=>cbv<;>exact rfl
 have ho:=o_rz w (hw.b w (by simp))
 rw [h] at ho
 have hu:=o_s9
 have hc:cmdA { CmdM.zero with op:=8 } = .agg [.int .i64 8,.int .i64 0,.int .i64 0,.int .i64 0,.int .i64 0,.int .u64 0,.nilsl,.nilsl]:=rfl
 rw [hc]
 generalize bst [45]=z at *
 refine A02 ho hu ?_;try with_reducible exact tt
theorem o_sm (w s:List Nat) (hw:WsOK [w,s]) (h:opN w=8) (h1:s≠[45]) (h2:s=[]∨unhexN s=none) :
  Eqn Tryz.prog o_ca [.d (.sl 2 [.str (bst w),.str (bst s)])] [] (.tup [J8,.d (.bool false)]) []:=by
 refine Eqn.pure o_cc (o_sh _) ?_
 refine cc (c':=?z266) ?_ ?_
 case refine_1=>cbv<;>exact rfl
 have ho:=o_rz w (hw.b w (by simp))
 rw [h] at ho
 have hu:=o_sb s (hw.b s (by simp)) (by have:=hw.l s (by simp);omega) h1 h2
 refine A02 ho hu ?_;try with_reducible exact tt
 exact o_sg (sub8D _ rfl)
theorem o_sn (w s b:List Nat) (hw:WsOK [w,s]) (h:opN w=8) (h0:s≠[]) (h2:unhexN s=some b) :
  Eqn Tryz.prog o_ca [.d (.sl 2 [.str (bst w),.str (bst s)])] [] (.tup [.d (cmdA { CmdM.zero with op:=8,bytes:=b }),.d (.bool true)]) []:=by
 refine Eqn.pure o_cc (o_fm _ _) ?_
 refine cc (c':=?z267) ?_ ?_
 case refine_1=>cbv<;>exact rfl
 have ho:=o_rz w (hw.b w (by simp))
 rw [h] at ho
 have hu:=o_se s b (hw.b s (by simp)) (by have:=hw.l s (by simp);omega) h0 h2
 have hev:=o_ru s b h2
 have hb0:b≠[]:=by rintro rfl;exact h0 (List.eq_nil_of_length_eq_zero (by simpa using hev))
 have hc:cmdA { CmdM.zero with op:=8,bytes:=b } = .agg [.int .i64 8,.int .i64 0,.int .i64 0,.int .i64 0,.int .i64 0,.int .u64 0,.nilsl,.sl b.length (b.map fun n:Nat=>.int .u8 n)]:=by
  unfold cmdA cmdD bytesD;rw [if_neg hb0];rfl
 rw [hc]
 refine A02 ho hu ?_;try with_reducible exact tt
end
section
open Go.RowKit
theorem o_so (k:Nat) (hk:k<10) (h1:k≠0) (h2:k≠1) (h3:k≠8):fldsN k≠[]∧(fldsN k).length≤4:=by
 have:∀k,k<10→k≠0→k≠1→k≠8→fldsN k≠[]∧(fldsN k).length≤4:=by decide
 exact this k hk h1 h2 h3
@[simp] theorem o_sp (k:Nat) (hk:0<k) (l:List FldM):V.lowl k (fldsV l)=true:=by
 induction l with
 | nil=>rfl
 | cons f l ih=>cases f<;>simp_all [fldsV,fldV,V.lowl,V.low]
def fldW (n:Nat):FldM→List V
 | .key=>[.d .nilp,.p n 5]
 | f=>[.p n (offF f),.d .nilp]
def fldsW (n:Nat) (l:List FldM):List V:=l.flatMap (fldW n)
theorem o_sq (n:Nat) (f:FldM) (l:List FldM):fldsW n (f::l)=fldW n f++fldsW n l:=rfl
theorem o_sr (θ:Nat→Nat) (n:Nat) (f:FldM):V.rens θ (fldW n f)=fldW (θ n) f:=by cases f<;>rfl
theorem o_ss (θ:Nat→Nat):∀(a b:List V),V.rens θ (a++b)=V.rens θ a++V.rens θ b
 | [],b=>by simp [V.rens]
 | x::a,b=>by simp only [List.cons_append,V.rens,o_ss θ a b]
@[simp] theorem o_st (θ:Nat→Nat) (n:Nat) (l:List FldM):V.rens θ (fldsW n l)=fldsW (θ n) l:=by
 induction l with
 | nil=>rfl
 | cons f l ih=>rw [o_sq,o_ss,ih,o_sr];rfl
theorem o_su (l:List FldM):fldsV l=fldsW 0 l:=by
 induction l with
 | nil=>rfl
 | cons f l ih =>
  rw [o_sq,←ih]
  cases f<;>rfl
theorem o_sv (n:Nat) (f:FldM):(fldW n f).length=2:=by cases f<;>rfl
@[simp] theorem o_sw (n:Nat) (l:List FldM):(fldsW n l).length=l.length*2:=by
 induction l with
 | nil=>rfl
 | cons f l ih=>rw [o_sq,List.length_append,ih,o_sv,List.length_cons];omega
theorem o_sx (k:Nat):∀(a b:List V),V.lowl k a=true→V.lowl k b=true→V.lowl k (a++b)=true
 | [],b,_,h=>h
 | x::a,b,h,h'=>by
  simp only [V.lowl,Bool.and_eq_true] at h
  simp only [List.cons_append,V.lowl,Bool.and_eq_true]
  exact ⟨h.1,o_sx k a b h.2 h'⟩
theorem o_sy (k n:Nat) (h:n<k) (l:List FldM):V.lowl k (fldsW n l)=true:=by
 induction l with
 | nil=>rfl
 | cons f l ih =>
  rw [o_sq]
  refine o_sx k _ _ ?_ ih
  cases f<;>simp [fldW,V.lowl,V.low,h]
theorem o_sz (n:Nat):∀(i:Nat) (l:List FldM) (h:i<l.length),((fldsW n l).drop (i*2)).take 2=fldW n l[i]
 | _,[],h=>by simp at h
 | 0,f::l,h=>by cases f<;>rfl
 | i+1,f::l,h=>by
  have e:(fldsW n (f::l)).drop ((i+1)*2)=(fldsW n l).drop (i*2):=by
   rw [o_sq,show (i+1)*2=(fldW n f).length+i*2 by rw [o_sv];omega,List.drop_append]
   simp
  rw [e,o_sz n i l (by simpa using h)]
  rfl
def resF:Option CmdM→V
 | some c=>.tup [.d (.agg (cmdD c .nilsl .nilsl)),.d (.bool true)]
 | none=>.tup [J8,.d (.bool false)]
theorem o_t0 (c:CmdM) (f:FldM) (l:List FldM) (s:List Nat) (r:List (List Nat)):setsF c (f::l) (s::r)=(setF c s f).bind fun c'=>setsF c' l r:=rfl
set_option maxHeartbeats 16000000 in
theorem o_t1 (w:List Nat) (rest:List (List Nat)) (hw:WsOK (w::rest)) (h0:opN w≠0) (h1:opN w≠1) (h8:opN w≠8) (hl:(fldsN (opN w)).length=rest.length) :
  Eqn Tryz.prog o_ca [.d (.sl (rest.length+1) (.str (bst w)::strD rest))] [] (resF (setsF { CmdM.zero with op:=opN w } (fldsN (opN w)) rest)) []:=by
 refine Eqn.pure o_cc (by unfold resF;split;exact o_fm _ _;exact o_sh _) ?_
 refine cc (c':=?z268) ?_ ?_
 case refine_1=>cbv<;>exact rfl
 have ho:=o_rz w (hw.b w (by simp))
 have hk10:opN w<10:=(o_nz w h0).2
 have hf:=o_rk { CmdM.zero with op:=opN w } .nilsl .nilsl (by unfold inR;simp only;omega)
 simp only [Int.toNat_natCast] at hf
 obtain ⟨hfn,hf4⟩:=o_so (opN w) hk10 h0 h1 h8
 replace hf:=hf hfn (by omega)
 generalize fldsN (opN w)=L at *
 have g0:¬((opN w:Nat):Int)=0:=by omega
 have g1:¬((opN w:Nat):Int)=1:=by omega
 have g8:¬((opN w:Nat):Int)=8:=by omega
 have h2:((rest.length:Int)+1-1).toNat=rest.length:=by omega
 have hl2:(L.length:Int)=rest.length:=by omega
 rw [o_su] at hf
 simp only [cmdD,CmdM.zero,List.map_cons,List.map_nil] at hf
 generalize opN w=k at *
 obtain ⟨tot,htot⟩:∃tot,tot=setsF { CmdM.zero with op:=(k:Int) } L rest:=⟨_,rfl⟩
 rw [←htot]
 have htk:(strD rest).take rest.length=strD rest:=List.take_of_length_le (by simp)
 refine A11 (fs g0 (fs g1 (fs g8 (fs h2 (fs h0 (fs h1 (fs h8 (fs hl2 hl)))))))) ho ?_;try with_reducible exact tt
 refine CallS.g [1] (hf) (R1 (fs hl2 (fs hl htk)) ?_);try with_reducible exact tt
 refine A10 (fs hl2 (fs hl htk)) ?_;try with_reducible exact tt
 refine AW.loopE (α:=Nat×CmdM) (fun s=>setS (List.replicate 93 .junk) [(2,.p 0 0),(4,.p 1 0),(5,.d (.sl rest.length (strD rest))),(76,.own 2 2 rest.length),(77,.d (.int .i64 rest.length)),(78,.d (.int .i64 (s.1:Nat)))]) (fun s=>[some ⟨28,[.d (.int .i64 0),.d (.int .i64 0),.d (.int .i64 0),.d (.int .i64 0),.d (.int .i64 0),.d (.int .u64 0),.d .nilsl,.d .nilsl]⟩,some ⟨28,(cmdD s.2 .nilsl .nilsl).map .d⟩,some ⟨87,fldsW 1 L⟩]) (fun s=>s.1≤rest.length∧setsF s.2 (L.drop s.1) (rest.drop s.1)=tot) (fun s=>rest.length-s.1) (0,{ CmdM.zero with op:=(k:Int) }) ?_ ⟨Nat.zero_le _,htot.symm⟩ ?_ ?_ ?_
 ·intro s _;exact Nat.zero_le _
 ·simp
 ·simp [cmdD,CmdM.zero,o_sy]
 rintro ⟨i,c⟩ ⟨hi,hs⟩
 simp only at hi hs
 by_cases hir:i<rest.length
 ·have hi1:(i:Int)<rest.length:=by omega
  have hiL:i<L.length:=by omega
  rw [List.drop_eq_getElem_cons hiL,List.drop_eq_getElem_cons hir,o_t0] at hs
  have hg:=o_sz 1 i L hiL
  have hsg:(strD rest)[i]?.getD default = .str (bst rest[i]):=by
   rw [List.getElem?_eq_getElem (by simpa using hir),Option.getD_some];exact o_si rest i hir
  have hwb:=hw.b (rest[i]) (by simp)
  have hwl:=hw.l (rest[i]) (by simp)
  have hbd:i*2+2≤rest.length*2:=by omega
  generalize rest[i]=s at *
  have ew:IntKind.i64.wrap ((i:Int)+1)=(i:Int)+1:=w64 (by omega) (by omega)
  generalize L[i]=f at *
  cases f with
  | h =>
   obtain ⟨v,hv,hv2⟩:=o_rg 28 (by decide) (cmdD c .nilsl .nilsl) 1 (by simp [cmdD]) s hwb (by omega)
   simp only [fldW,offF] at hg
   simp only [setF] at hs
   simp [cmdD] at hv
   simp [cmdD]
   cases hr:readI s with
   | none =>
    rw [hr] at hv hs
    have hn:tot=none:=by rw [←hs];rfl
    simp at hv
    subst hn
    refine A10 (fs hi1 (fs hl2 (fs hl (fs hg (fs hsg hbd))))) ?_;try with_reducible exact tt
    refine CallS.g [1] (hv) (R1 (fs hi1 (fs hl2 hl)) ?_);try with_reducible exact tt
    refine A00 ?_;try with_reducible exact tt
    exact o_sg (sub8D _ rfl)
   | some u =>
    have hvu:=hv2 u hr
    subst hvu
    rw [hr] at hv hs
    simp at hv
    refine A10 (fs hi1 (fs hl2 (fs hl (fs hg (fs hsg hbd))))) ?_;try with_reducible exact tt
    refine CallS.g [1] (hv) (R1 (fs hi1 (fs hl2 hl)) ?_);try with_reducible exact tt
    refine A10 ew ?_;try with_reducible exact tt
    exact ⟨i+1,{ c with h:=v },⟨by omega,hs⟩,by omega,by simp,by simp [cmdD,o_sy]⟩
  | o =>
   obtain ⟨v,hv,hv2⟩:=o_rg 28 (by decide) (cmdD c .nilsl .nilsl) 2 (by simp [cmdD]) s hwb (by omega)
   simp only [fldW,offF] at hg
   simp only [setF] at hs
   simp [cmdD] at hv
   simp [cmdD]
   cases hr:readI s with
   | none =>
    rw [hr] at hv hs
    have hn:tot=none:=by rw [←hs];rfl
    simp at hv
    subst hn
    refine A10 (fs hi1 (fs hl2 (fs hl (fs hg (fs hsg hbd))))) ?_;try with_reducible exact tt
    refine CallS.g [1] (hv) (R1 (fs hi1 (fs hl2 hl)) ?_);try with_reducible exact tt
    refine A00 ?_;try with_reducible exact tt
    exact o_sg (sub8D _ rfl)
   | some u =>
    have hvu:=hv2 u hr
    subst hvu
    rw [hr] at hv hs
    simp at hv
    refine A10 (fs hi1 (fs hl2 (fs hl (fs hg (fs hsg hbd))))) ?_;try with_reducible exact tt
    refine CallS.g [1] (hv) (R1 (fs hi1 (fs hl2 hl)) ?_);try with_reducible exact tt
    refine A10 ew ?_;try with_reducible exact tt
    exact ⟨i+1,{ c with o:=v },⟨by omega,hs⟩,by omega,by simp,by simp [cmdD,o_sy]⟩
  | i =>
   obtain ⟨v,hv,hv2⟩:=o_rg 28 (by decide) (cmdD c .nilsl .nilsl) 3 (by simp [cmdD]) s hwb (by omega)
   simp only [fldW,offF] at hg
   simp only [setF] at hs
   simp [cmdD] at hv
   simp [cmdD]
   cases hr:readI s with
   | none =>
    rw [hr] at hv hs
    have hn:tot=none:=by rw [←hs];rfl
    simp at hv
    subst hn
    refine A10 (fs hi1 (fs hl2 (fs hl (fs hg (fs hsg hbd))))) ?_;try with_reducible exact tt
    refine CallS.g [1] (hv) (R1 (fs hi1 (fs hl2 hl)) ?_);try with_reducible exact tt
    refine A00 ?_;try with_reducible exact tt
    exact o_sg (sub8D _ rfl)
   | some u =>
    have hvu:=hv2 u hr
    subst hvu
    rw [hr] at hv hs
    simp at hv
    refine A10 (fs hi1 (fs hl2 (fs hl (fs hg (fs hsg hbd))))) ?_;try with_reducible exact tt
    refine CallS.g [1] (hv) (R1 (fs hi1 (fs hl2 hl)) ?_);try with_reducible exact tt
    refine A10 ew ?_;try with_reducible exact tt
    exact ⟨i+1,{ c with i:=v },⟨by omega,hs⟩,by omega,by simp,by simp [cmdD,o_sy]⟩
  | n =>
   obtain ⟨v,hv,hv2⟩:=o_rg 28 (by decide) (cmdD c .nilsl .nilsl) 4 (by simp [cmdD]) s hwb (by omega)
   simp only [fldW,offF] at hg
   simp only [setF] at hs
   simp [cmdD] at hv
   simp [cmdD]
   cases hr:readI s with
   | none =>
    rw [hr] at hv hs
    have hn:tot=none:=by rw [←hs];rfl
    simp at hv
    subst hn
    refine A10 (fs hi1 (fs hl2 (fs hl (fs hg (fs hsg hbd))))) ?_;try with_reducible exact tt
    refine CallS.g [1] (hv) (R1 (fs hi1 (fs hl2 hl)) ?_);try with_reducible exact tt
    refine A00 ?_;try with_reducible exact tt
    exact o_sg (sub8D _ rfl)
   | some u =>
    have hvu:=hv2 u hr
    subst hvu
    rw [hr] at hv hs
    simp at hv
    refine A10 (fs hi1 (fs hl2 (fs hl (fs hg (fs hsg hbd))))) ?_;try with_reducible exact tt
    refine CallS.g [1] (hv) (R1 (fs hi1 (fs hl2 hl)) ?_);try with_reducible exact tt
    refine A10 ew ?_;try with_reducible exact tt
    exact ⟨i+1,{ c with n:=v },⟨by omega,hs⟩,by omega,by simp,by simp [cmdD,o_sy]⟩
  | key =>
   obtain ⟨v,hv,hv2⟩:=o_rh 28 (by decide) (cmdD c .nilsl .nilsl) 5 (by simp [cmdD]) s hwb (by omega)
   simp only [fldW,offF] at hg
   simp only [setF] at hs
   simp [cmdD] at hv
   simp [cmdD]
   cases hr:readK s with
   | none =>
    rw [hr] at hv hs
    have hn:tot=none:=by rw [←hs];rfl
    simp at hv
    subst hn
    refine A10 (fs hi1 (fs hl2 (fs hl (fs hg (fs hsg hbd))))) ?_;try with_reducible exact tt
    refine CallS.g [1] (hv) (R1 (fs hi1 (fs hl2 hl)) ?_);try with_reducible exact tt
    refine A00 ?_;try with_reducible exact tt
    exact o_sg (sub8D _ rfl)
   | some u =>
    have hvu:=hv2 u hr
    subst hvu
    rw [hr] at hv hs
    simp at hv
    refine A10 (fs hi1 (fs hl2 (fs hl (fs hg (fs hsg hbd))))) ?_;try with_reducible exact tt
    refine CallS.g [1] (hv) (R1 (fs hi1 (fs hl2 hl)) ?_);try with_reducible exact tt
    refine A10 ew ?_;try with_reducible exact tt
    exact ⟨i+1,{ c with key:=v },⟨by omega,hs⟩,by omega,by simp,by simp [cmdD,o_sy]⟩
 ·have hi0:i=rest.length:=by omega
  have hi1:¬(i:Int)<rest.length:=by omega
  rw [List.drop_of_length_le (by omega),List.drop_of_length_le (by omega)] at hs
  have hn:tot=some c:=hs.symm
  subst hn
  simp [cmdD,resF]
  refine A10 hi1 ?_;try with_reducible exact tt
end
section
open Go.RowKit
theorem o_t2 (w:List Nat) (rest:List (List Nat)) (hw:WsOK (w::rest)) (h0:opN w≠0) (h1:opN w≠1) (h8:opN w≠8) (hl:(fldsN (opN w)).length≠rest.length) :
  Eqn Tryz.prog o_ca [.d (.sl (rest.length+1) (.str (bst w)::strD rest))] [] (.tup [J8,.d (.bool false)]) []:=by
 refine Eqn.pure o_cc (o_sh _) ?_
 refine cc (c':=?z269) ?_ ?_
 case refine_1=>cbv<;>exact rfl
 have ho:=o_rz w (hw.b w (by simp))
 have hk10:opN w<10:=(o_nz w h0).2
 have hf:=o_rk { CmdM.zero with op:=opN w } .nilsl .nilsl (by unfold inR;simp only;omega)
 simp only [Int.toNat_natCast] at hf
 obtain ⟨hfn,hf4⟩:=o_so (opN w) hk10 h0 h1 h8
 replace hf:=hf hfn (by omega)
 generalize fldsN (opN w)=L at *
 have g0:¬((opN w:Nat):Int)=0:=by omega
 have g1:¬((opN w:Nat):Int)=1:=by omega
 have g8:¬((opN w:Nat):Int)=8:=by omega
 have h2:((rest.length:Int)+1-1).toNat=rest.length:=by omega
 have hl2:¬(L.length:Int)=rest.length:=by omega
 rw [o_su] at hf
 simp only [cmdD,CmdM.zero,List.map_cons,List.map_nil] at hf
 generalize opN w=k at *
 refine A11 (fs g0 (fs g1 (fs g8 (fs h2 (fs h0 (fs h1 (fs h8 (fs hl2 hl)))))))) ho ?_;try with_reducible exact tt
 refine CallS.g [1] (hf) (R1 (fs hl2 hl) ?_);try with_reducible exact tt
 refine A10 (fs hl2 hl) ?_;try with_reducible exact tt
 exact o_sg (sub8D _ rfl)
noncomputable def newF:List (List Nat)→V
 | []=>.tup [J8,.d (.bool false)]
 | s::r=>match readIs (s::r) with
  | some l=>.tup [.d (cmdA { CmdM.zero with op:=1,nums:=l }),.d (.bool true)]
  | none=>.tup [J8,.d (.bool false)]
theorem o_t3 {r:List (List Nat)} (h:readIs r=none):newF r = .tup [J8,.d (.bool false)]:=by
 cases r with
 | nil=>rfl
 | cons a b=>simp only [newF,h]
theorem o_t4 {r:List (List Nat)} {l:List Int} (h:readIs r=some l) (h0:r≠[]):newF r = .tup [.d (cmdA { CmdM.zero with op:=1,nums:=l }),.d (.bool true)]:=by
 cases r with
 | nil=>exact absurd rfl h0
 | cons a b=>simp only [newF,h]
def intD (l:List Int):List D:=l.map fun n:Int=>.int .i64 n
theorem o_t5:∀{s:List (List Nat)} {l:List Int} (x:List Nat),readIs s=some l→readIs (s++[x])=(readI x).map fun v=>l++[v]
 | [],l,x,h=>by
  cases h
  simp only [List.nil_append,readIs]
  cases readI x<;>rfl
 | a::r,l,x,h=>by
  simp only [List.cons_append,readIs] at h ⊢
  split at h
  ·rename_i v k h2 h3
   cases h
   rw [o_t5 x h3,h2]
   cases readI x<;>rfl
  ·cases h
theorem o_t6 {s:List (List Nat)}:∀{i:Nat},(h:i<s.length)→readI s[i]=none→readIs s=none:=by
 induction s with
 | nil=>intro i h;simp at h
 | cons a r ih =>
  intro i h h1
  cases i with
  | zero=>simp only [List.getElem_cons_zero] at h1;rw [readIs,h1]
  | succ i =>
   have:=ih (by simpa using h) (by simpa using h1)
   rw [readIs,this]
   split<;>simp_all
set_option maxHeartbeats 16000000 in
theorem o_t7 (w:List Nat) (rest:List (List Nat)) (hw:WsOK (w::rest)) (h:opN w=1) :
  Eqn Tryz.prog o_ca [.d (.sl (rest.length+1) (.str (bst w)::strD rest))] [] (newF rest) []:=by
 refine Eqn.pure o_cc (by unfold newF;split;exact o_sh _;split;exact o_fm _ _;exact o_sh _) ?_
 refine cc (c':=?z270) ?_ ?_
 case refine_1=>cbv<;>exact rfl
 have ho:=o_rz w (hw.b w (by simp))
 rw [h] at ho
 have h2:((rest.length:Int)+1-1).toNat=rest.length:=by omega
 have htk:(strD rest).take rest.length=strD rest:=List.take_of_length_le (by simp)
 have hn:=hw.n
 simp only [List.length_cons] at hn
 have hb1:8*(rest.length:Int)≤281474976710656:=by omega
 have hb2:(rest.length:Int)≤281474976710656:=by omega
 obtain ⟨tot,htot⟩:∃tot,tot=newF rest:=⟨_,rfl⟩
 rw [←htot]
 refine A11 (fs h2 (fs htk (fs hb1 hb2))) ho ?_;try with_reducible exact tt
 refine AW.loopE (α:=Nat×List Int) (fun s=>setS (List.replicate 93 .junk) [(2,.p 0 0),(4,.p 1 0),(5,.d (.sl rest.length (strD rest))),(31,.d (.sl rest.length (strD rest))),(32,.d (.int .i64 rest.length)),(33,.d (.int .i64 (s.1:Nat)))]) (fun s=>[some ⟨28,[.d (.int .i64 0),.d (.int .i64 0),.d (.int .i64 0),.d (.int .i64 0),.d (.int .i64 0),.d (.int .u64 0),.d .nilsl,.d .nilsl]⟩,some ⟨28,[.d (.int .i64 1),.d (.int .i64 0),.d (.int .i64 0),.d (.int .i64 0),.d (.int .i64 0),.d (.int .u64 0),.own 2 1 rest.length,.d .nilsl]⟩,some ⟨3,(intD s.2++List.replicate (rest.length-s.1) (D.int .i64 0)).map .d⟩]) (fun s=>s.1≤rest.length∧s.2.length=s.1∧readIs (rest.take s.1)=some s.2) (fun s=>rest.length-s.1) (0,[]) ?_ ⟨Nat.zero_le _,rfl,rfl⟩ ?_ ?_ ?_
 ·intro s _;exact Nat.zero_le _
 ·simp
 ·simp [intD]
  all_goals (rw [show List.replicate rest.length (V.d (D.int .i64 0))=(List.replicate rest.length (D.int .i64 0)).map .d by simp];exact o_6y _ _)
 rintro ⟨i,l⟩ ⟨hi,hll,hs⟩
 simp only at hi hll hs
 by_cases hir:i<rest.length
 ·have hi1:(i:Int)<rest.length:=by omega
  have hsg:(strD rest)[i]?.getD default = .str (bst rest[i]):=by
   rw [List.getElem?_eq_getElem (by simpa using hir),Option.getD_some];exact o_si rest i hir
  have hsg2:=o_si rest i hir
  have hwb:=hw.b (rest[i]) (by simp)
  have hwl:=hw.l (rest[i]) (by simp)
  have hsn:=o_t5 rest[i] hs
  rw [←List.take_succ_eq_append_getElem hir] at hsn
  have hno:=o_t6 hir
  generalize rest[i]=s at *
  have ew:IntKind.i64.wrap ((i:Int)+1)=(i:Int)+1:=w64 (by omega) (by omega)
  have hcl:(intD l++List.replicate (rest.length-i) (D.int .i64 0)).length=rest.length:=by simp [intD];omega
  obtain ⟨v,hv,hv2⟩:=o_rg 3 (by decide) (intD l++List.replicate (rest.length-i) (.int .i64 0)) i (by omega) s hwb (by omega)
  have hset:(intD l++List.replicate (rest.length-i) (D.int .i64 0)).set i (.int .i64 v)=intD (l++[v])++List.replicate (rest.length-(i+1)) (.int .i64 0):=by
   rw [show rest.length-i=(rest.length-(i+1))+1 by omega,List.replicate_succ,List.set_append_right _ _ (by simp [intD];omega)]
   simp [intD,hll]
  rw [hset] at hv
  generalize intD l++List.replicate (rest.length-i) (D.int .i64 0)=C1 at *
  obtain ⟨C2,hC2⟩:∃C2,C2=intD (l++[v])++List.replicate (rest.length-(i+1)) (D.int .i64 0):=⟨_,rfl⟩
  rw [←hC2] at hv
  have hm1:(C1.map V.d).length=rest.length:=by simp [hcl]
  simp
  cases hr:readI s with
  | none =>
   rw [hr] at hv
   have hn:tot = .tup [J8,.d (.bool false)]:=by rw [htot];exact o_t3 (hno hr)
   rw [hn]
   simp only [Option.isSome_none] at hv
   refine A10 (fs hi1 (fs hsg (fs hsg2 (fs hir hm1)))) ?_;try with_reducible exact tt
   refine CallS.g [2] (hv) (R1 (fs hi1 (fs hir hm1)) ?_);try with_reducible exact tt
   refine A00 ?_;try with_reducible exact tt
   exact o_sg (sub8V _ rfl)
  | some u =>
   have hvu:=hv2 u hr
   subst hvu
   rw [hr] at hv hsn
   simp only [Option.isSome_some] at hv
   refine A10 (fs hi1 (fs hsg (fs hsg2 (fs hir hm1)))) ?_;try with_reducible exact tt
   refine CallS.g [2] (hv) (R1 (fs hi1 (fs hir hm1)) ?_);try with_reducible exact tt
   refine A10 ew ?_;try with_reducible exact tt
   refine ⟨i+1,l++[v],⟨by omega,by simp [hll],hsn⟩,by omega,by simp,?_⟩
   rw [hC2]
   have hlw:=o_6y 3 (intD (l++[v])++List.replicate (rest.length-(i+1)) (D.int .i64 0))
   simp only [List.map_append,List.map_replicate] at hlw
   simp [hlw]
 ·have hi0:i=rest.length:=by omega
  have hi1:¬(i:Int)<rest.length:=by omega
  rw [List.take_of_length_le (by omega)] at hs
  by_cases hr0:rest=[]
  ·have hn:tot = .tup [J8,.d (.bool false)]:=by rw [htot,hr0];rfl
   have hl0:rest.length=0:=by rw [hr0];rfl
   rw [hn]
   simp
   have hl1:¬0<rest.length:=by omega
   have hl2:(rest=[])↔True:=by simp [hr0]
   refine A10 (fs hi1 hl1) ?_;try with_reducible exact tt
   exact o_sg (sub8V _ rfl)
  ·have hn:=o_t4 hs hr0
   rw [←htot] at hn
   have hl0:0<rest.length:=List.length_pos_iff.2 hr0
   have hlne:l≠[]:=by rintro rfl;simp at hll;omega
   have hc:cmdA { CmdM.zero with op:=1,nums:=l } = .agg [.int .i64 1,.int .i64 0,.int .i64 0,.int .i64 0,.int .i64 0,.int .u64 0,.sl rest.length (intD l),.nilsl]:=by
    unfold cmdA cmdD numsD;simp only;rw [if_neg hlne,show l.length=rest.length by omega];rfl
   rw [hc] at hn
   rw [hn]
   refine AW.freeze 2 1 ⟨3,(intD l++List.replicate (rest.length-i) (D.int .i64 0)).map .d⟩ (intD l) rfl (by rw [hi0];simp) ?_
   have htt:(intD l).take rest.length=intD l:=List.take_of_length_le (by simp [intD];omega)
   simp [htt]
   refine A10 (fs hi1 hl0) ?_;try with_reducible exact tt
   done
end
section
open Go.RowKit
def readF:Option CmdM→V
 | some c=>.tup [.d (cmdA c),.d (.bool true)]
 | none=>.tup [J8,.d (.bool false)]
theorem o_t8:∀(l:List FldM) (r:List (List Nat)) (c:CmdM),l.length≠r.length→setsF c l r=none
 | [],[],_,h=>absurd rfl h
 | [],_::_,_,_=>rfl
 | _::_,[],_,_=>rfl
 | f::l,s::r,c,h=>by
  rw [setsF]
  cases setF c s f with
  | none=>rfl
  | some d=>exact o_t8 l r d (by simpa using h)
theorem o_t9 {c d:CmdM} {s:List Nat} {f:FldM} (h:setF c s f=some d):d.nums=c.nums∧d.bytes=c.bytes:=by
 cases f<;>simp only [setF,Option.map_eq_some_iff] at h<;>obtain ⟨v,_,rfl⟩:=h<;>exact ⟨rfl,rfl⟩
theorem o_ta:∀(l:List FldM) (r:List (List Nat)) (c d:CmdM),setsF c l r=some d→d.nums=c.nums∧d.bytes=c.bytes
 | [],[],c,d,h=>by cases h;exact ⟨rfl,rfl⟩
 | [],_::_,c,d,h=>by cases h
 | _::_,[],c,d,h=>by cases h
 | f::l,s::r,c,d,h=>by
  rw [setsF,Option.bind_eq_some_iff] at h
  obtain ⟨e,h1,h2⟩:=h
  obtain ⟨i1,i2⟩:=o_ta l r e d h2
  obtain ⟨j1,j2⟩:=o_t9 h1
  exact ⟨i1.trans j1,i2.trans j2⟩
theorem o_tb (ws:List (List Nat)) (hw:WsOK ws) (h0:ws≠[]):Eqn Tryz.prog o_ca [.d (.sl ws.length (strD ws))] [] (readF (parseW ws)) []:=by
 cases ws with
 | nil=>exact absurd rfl h0
 | cons w rest =>
  show Eqn Tryz.prog o_ca [.d (.sl (rest.length+1) (.str (bst w)::strD rest))] [] _ []
  rw [parseW]
  split
  ·rename_i h;exact o_sj w rest hw h
  rename_i h0
  split
  ·rename_i h1
   have e:readF (if rest=[] then none else (readIs rest).map fun l=>{ CmdM.zero with op:=1,nums:=l })=newF rest:=by
    cases rest with
    | nil=>rfl
    | cons a b =>
     rw [if_neg (by simp)]
     cases hq:readIs (a::b) with
     | none=>rw [o_t3 hq];rfl
     | some q=>rw [o_t4 hq (by simp)];rfl
   rw [e]
   exact o_t7 w rest hw h1
  rename_i h1
  split
  ·rename_i h8
   rcases rest with _ | ⟨s,_ | ⟨t,r⟩⟩
   ·exact o_sk w [] hw h8 (by simp)
   ·show Eqn Tryz.prog o_ca [.d (.sl 2 [.str (bst w),.str (bst s)])] [] (readF (parse8 [s])) []
    rw [parse8]
    split
    ·rename_i hs;subst hs;exact o_sl w hw h8
    ·rename_i hs
     split
     ·rename_i h2;exact o_sm w s hw h8 hs (.inl h2)
     ·rename_i h2
      cases hu:unhexN s with
      | none=>exact o_sm w s hw h8 hs (.inr hu)
      | some b=>exact o_sn w s b hw h8 h2 hu
   ·exact o_sk w (s::t::r) hw h8 (by simp)
  rename_i h8
  by_cases hl:(fldsN (opN w)).length=rest.length
  ·have h:=o_t1 w rest hw h0 h1 h8 hl
   cases hs:setsF { CmdM.zero with op:=opN w } (fldsN (opN w)) rest with
   | none=>rw [hs] at h;exact h
   | some c =>
    rw [hs] at h
    obtain ⟨e1,e2⟩:=o_ta _ _ _ _ hs
    have e:cmdA c = .agg (cmdD c .nilsl .nilsl):=by unfold cmdA;rw [show c.nums=[] from e1,show c.bytes=[] from e2];rfl
    show Eqn Tryz.prog o_ca _ [] (.tup [.d (cmdA c),.d (.bool true)]) []
    rw [e]
    exact h
  ·rw [o_t8 _ _ _ hl]
   exact o_t2 w rest hw h0 h1 h8 hl
def parseF:Option CmdM→V
 | some c=>.tup [.d (cmdA c),.d (.int .i64 0)]
 | none=>.tup [.d (cmdA CmdM.zero),.d (.int .i64 4)]
theorem o_tc {l:List Nat} (hl:∀x∈l,x<256) (hn:l.length≤900000):WsOK (spltN 32 l):=by
 refine ⟨fun w hw x hx=>hl x ((o_pu hw).2 x hx),fun w hw=>?_,?_⟩
 ·have h1:∀(ws:List (List Nat)),w∈ws→w.length≤(joinN 32 ws).length:=by
   intro ws
   induction ws with
   | nil=>intro h;simp at h
   | cons a r ih =>
    intro h
    cases r with
    | nil=>simp at h;subst h;simp [joinN]
    | cons b r =>
     rw [o_pn _ _ _ (by simp)]
     rcases List.mem_cons.1 h with rfl | h
     ·simp
     ·have:=ih h;simp at this ⊢;omega
  have:=h1 _ hw
  rw [o_ps] at this
  omega
 ·rw [o_pr]
  have:l.count 32≤l.length:=List.count_le_length
  omega
theorem o_td (l:List Nat) (hl:∀x∈l,x<256) (hn:l.length≤900000):Eqn Tryz.prog o_bp [.d (.str (bst l))] [] (parseF (parseM l)) []:=by
 refine Eqn.pure o_br (by unfold parseF;split<;>exact o_fm _ _) ?_
 refine cc (c':=?z271) ?_ ?_
 case refine_1=>cbv<;>exact rfl
 have hsp:=o_qi 32 (by decide) l hl (by omega)
 have hr:=o_tb (spltN 32 l) (o_tc hl hn) (o_po _ _)
 have hpm:parseM l=parseW (spltN 32 l):=rfl
 rw [hpm]
 generalize parseW (spltN 32 l)=tot at *
 generalize spltN 32 l=ws at *
 have hb:bst [32]=⟨#[32]⟩:=rfl
 rw [hb] at hsp
 have hsd:=o_q5 ws
 rw [hsd] at hsp
 have htk:(strD ws).take ws.length=strD ws:=List.take_of_length_le (by simp)
 refine A00 ?_;try with_reducible exact tt
 refine CallS.g [] (hsp) (R0 ?_);try with_reducible exact tt
 cases tot with
 | none =>
  replace hr:Eqn Tryz.prog o_ca [.d (.sl ws.length (strD ws))] [] (.tup [.agg [.junk,.junk,.junk,.junk,.junk,.junk,.junk,.junk],.d (.bool false)]) []:=hr
  haveI hp:Plain (.tup [.agg [.junk,.junk,.junk,.junk,.junk,.junk,.junk,.junk],.d (.bool false)]):=⟨o_sh false⟩
  unfold parseF cmdA CmdM.zero cmdD numsD bytesD
  refine CallS.pf 1 1 ⟨9,(strD ws).map .d⟩ (strD ws) (hr) (by first | rfl | (simp [htk];done)) (R1 htk ?_);try with_reducible exact tt
  refine A00 ?_;try with_reducible exact tt
 | some c =>
  unfold readF cmdA cmdD at hr
  unfold parseF cmdA cmdD
  refine CallS.pf 1 1 ⟨9,(strD ws).map .d⟩ (strD ws) (hr) (by first | rfl | (simp [htk];done)) (R1 htk ?_);try with_reducible exact tt
  refine A00 ?_;try with_reducible exact tt
end
section
open Go.RowKit
theorem o_te (n:Nat):spltN 10 (List.replicate n 10)=List.replicate (n+1) []:=by
 induction n with
 | zero=>rfl
 | succ n ih=>rw [List.replicate_succ,spltN,if_pos rfl,ih,←List.replicate_succ]
def nlV (n:Nat):List V:=List.replicate n (.d (.str ⟨#[]⟩))
theorem o_tf (n:Nat):strV (List.replicate n [])=nlV n:=by
 unfold strV nlV;rw [List.map_replicate];rfl
@[simp] theorem o_tg (n:Nat):(nlV n).length=n:=by simp [nlV]
@[simp] theorem o_th (k n:Nat):V.lowl k (nlV n)=true:=by rw [←o_tf];exact o_q7 _ _
@[simp] theorem o_ti (θ:Nat→Nat) (n:Nat):V.rens θ (nlV n)=nlV n:=by rw [←o_tf];exact o_q6 _ _
theorem o_tj (n i:Nat) (h:i<n):(nlV n)[i]?=some (.d (.str ⟨#[]⟩)):=by simp [nlV,h]
theorem o_tk (n:Nat) (hn:n≤65536):Eqn Tryz.prog o_bs [.d (.str (bst (List.replicate n 10))),.d .nilsl] [] (.d (.str (bst []))) []:=by
 refine Eqn.pure o_bu (o_6a _) ?_
 refine cc (c':=?z272) ?_ ?_
 case refine_1=>cbv<;>exact rfl
 have hbo:=o_qw
 unfold machG tapeE at hbo
 have hsp:=o_qi 10 (by decide) (List.replicate n 10) (by simp) (by simp;omega)
 rw [o_te,o_tf] at hsp
 have hfl:=o_ra
 have hst:=bstrZB [.int .i64 64]
 unfold boxZ chO at hfl
 have hlen:(bst (List.replicate n 10)).size=n:=by show ((List.replicate n 10).map UInt8.ofNat).toArray.size=n;simp
 have hln:¬65536<(n:Int):=by omega
 simp only [List.length_replicate] at hsp
 have hb:bst [10]=⟨#[10]⟩:=rfl
 rw [hb] at hsp
 generalize bst (List.replicate n 10)=txt at *
 generalize itZ++(itZ++repsL 15 itZ [])=mc at *
 refine A00 ?_;try with_reducible exact tt
 refine AW.scope ?_
 refine A10 (fs hlen hln) ?_;try with_reducible exact tt
 refine CallS.g [] (hbo) (R0 ?_);try with_reducible exact tt
 refine A00 ?_;try with_reducible exact tt
 refine CallS.g [] (hsp) (R0 ?_);try with_reducible exact tt
 refine A00 ?_;try with_reducible exact tt
 refine AW.loopE (α:=Nat) (fun i=>setS (List.replicate 57 .junk) [(5,.p 1 0),(24,.row 4 0 (n+1)),(25,.d (.int .i64 (n+1))),(26,.d (.int .i64 (i:Nat)))]) (fun i=>[some ⟨1000001,[.d (.int .i64 64)]⟩,some ⟨67,[.ch 0,.d .nilp,.d .nilsl]⟩,none,none,some ⟨9,nlV (n+1)⟩]) (fun i=>i≤n+1) (fun i=>n+1-i) 0 ?_ (Nat.zero_le _) ?_ ?_ ?_
 ·intro i _;exact Nat.zero_le _
 ·simp
 ·simp
 rintro i hi
 by_cases hil:i<n+1
 ·have hi1:(i:Int)<n+1:=by omega
  have hg:=o_tj (n+1) i hil
  have hg2:(nlV (n+1))[i]'(by simpa using hil) = .d (.str ⟨#[]⟩):=by simp [nlV]
  have ew:IntKind.i64.wrap ((i:Int)+1)=(i:Int)+1:=w64 (by omega) (by omega)
  have hil2:i<(nlV (n+1)).length:=by simpa using hil
  simp
  refine A10 (fs hi1 (fs hg (fs hg2 (fs hil ew)))) ?_;try with_reducible exact tt
  exact ⟨i+1,by omega,by omega,Sub1.refl _⟩
 ·have hi1:¬(i:Int)<n+1:=by omega
  simp
  refine A10 hi1 ?_;try with_reducible exact tt
  refine CallS.g [1,0] (hfl) (R0 ?_);try with_reducible exact tt
  refine A00 ?_;try with_reducible exact tt
  refine CallS.g [1,0] (hst) (R0 ?_);try with_reducible exact tt
theorem o_tl (s:ByteArray) (hs:65536<s.size):Eqn Tryz.prog o_bs [.d (.str s),.d .nilsl] [] (.d (.str (bst [101,114,114,111,114,32,51,10]))) []:=by
 refine Eqn.pure o_bu (o_6a _) ?_
 refine cc (c':=?z273) ?_ ?_
 case refine_1=>cbv<;>exact rfl
 have hbo:=o_qw
 unfold machG tapeE at hbo
 have hsp:=o_qi 10 (by decide) [] (by simp) (by simp)
 have h3:itoaN 3=[51]:=by unfold itoaN;simp;unfold decN ndig;simp [padN]
 have hfd:=o_rf 3 (by unfold inR;omega)
 rw [h3] at hfd
 have hpu:=o_r6 [] ([101,114,114,111,114,32]++[51]) (by simp)
 have hfl:=o_r9 [[101,114,114,111,114,32,51]] (by simp) (by simp) (by simp [linesN])
 have hlN:linesN [[101,114,114,111,114,32,51]]=[101,114,114,111,114,32,51,10]:=rfl
 rw [hlN] at hfl
 have hst:=bstrB [.int .i64 64] [101,114,114,111,114,32,51,10] (by simp) (by simp) (by simp)
 simp only [boxZ,boxU,chO,byO,List.cons_append,List.nil_append,List.map_cons,List.map_nil,List.length_cons,List.length_nil] at hfl hpu hst hfd
 have hln:(65536:Int)<s.size:=by omega
 have hb:bst [10]=⟨#[10]⟩:=rfl
 have hn:bst []=⟨#[]⟩:=rfl
 have hsn:spltN 10 []=[[]]:=rfl
 rw [hsn,hb,hn] at hsp
 have hsv:strV [[]]=[.d (.str ⟨#[]⟩)]:=rfl
 rw [hsv] at hsp
 simp only [List.length_cons,List.length_nil] at hsp
 generalize bst [101,114,114,111,114,32,51]=er at *
 generalize [101,114,114,111,114,32,51,10]=rw at *
 generalize itZ++(itZ++repsL 15 itZ [])=mc at *
 refine A00 ?_;try with_reducible exact tt
 refine AW.scope ?_
 refine A11 hln hfd ?_;try with_reducible exact tt
 refine CallS.g [1,0] (hpu) (R0 ?_);try with_reducible exact tt
 refine A00 ?_;try with_reducible exact tt
 refine CallS.g [] (hbo) (R0 ?_);try with_reducible exact tt
 refine A00 ?_;try with_reducible exact tt
 refine CallS.g [] (hsp) (R0 ?_);try with_reducible exact tt
 refine A00 ?_;try with_reducible exact tt
 refine AW.rounds 3 (AWu.next ?_)
 refine A00 ?_;try with_reducible exact tt
 refine CallS.g [1,0] (hfl) (R0 ?_);try with_reducible exact tt
 refine A00 ?_;try with_reducible exact tt
 refine CallS.g [1,0,5] (hst) (R0 ?_);try with_reducible exact tt
end
section
open Go.RowKit
theorem dec1 {n:Nat} (h:n<10):decN n=[48+n]:=by
 unfold decN ndig;rw [if_pos h];simp [padN];omega
theorem itoa1 {n:Nat} (h:n<10):itoaN (n:Int)=[48+n]:=by
 unfold itoaN;rw [if_neg (by omega)];exact dec1 h
def ca1:CmdM:=⟨1,0,0,0,0,0,[1,2,1,3],[]⟩
def ca2:CmdM:=⟨2,1,0,0,2,0,[],[]⟩
def ca3:CmdM:=⟨4,1,0,0,0,0,[],[]⟩
def li1:List Nat:=[110,101,119,32,49,32,50,32,49,32,51]
def li2:List Nat:=[97,100,100,32,49,32,48,32,50]
def li3:List Nat:=[113,117,101,114,121,32,49,32,48,32,48,32,48]
theorem o_tm (n:Nat) (h:n<1000):inR n:=by unfold inR;omega
theorem good1:ca1.Good:=⟨o_tm 1 (by omega),o_tm 0 (by omega),o_tm 0 (by omega),o_tm 0 (by omega),o_tm 0 (by omega),by decide,by unfold ca1 inR;decide,by simp [ca1]⟩
theorem good2:ca2.Good:=⟨o_tm 2 (by omega),o_tm 1 (by omega),o_tm 0 (by omega),o_tm 0 (by omega),o_tm 2 (by omega),by decide,by simp [ca2],by simp [ca2]⟩
theorem good3:ca3.Good:=⟨o_tm 4 (by omega),o_tm 1 (by omega),o_tm 0 (by omega),o_tm 0 (by omega),o_tm 0 (by omega),by decide,by simp [ca3],by simp [ca3]⟩
theorem i0:itoaN 0=[48]:=itoa1 (n:=0) (by omega)
theorem i1:itoaN 1=[49]:=itoa1 (n:=1) (by omega)
theorem i2:itoaN 2=[50]:=itoa1 (n:=2) (by omega)
theorem i3:itoaN 3=[51]:=itoa1 (n:=3) (by omega)
theorem d0:decN 0=[48]:=dec1 (n:=0) (by omega)
theorem wd1:textW ca1=[[110,101,119],[49],[50],[49],[51]]:=by
 show [110,101,119]::[itoaN 1,itoaN 2,itoaN 1,itoaN 3]=_
 rw [i1,i2,i3]
theorem wd2:textW ca2=[[97,100,100],[49],[48],[50]]:=by
 show [97,100,100]::[itoaN 1,itoaN 0,itoaN 2]=_
 rw [i1,i2,i0]
theorem wd3:textW ca3=[[113,117,101,114,121],[49],[48],[48],[48]]:=by
 show [113,117,101,114,121]::[itoaN 1,itoaN 0,decN 0,itoaN 0]=_
 rw [i1,i0,d0]
theorem pa1:parseM li1=some ca1:=by
 have:=o_px good1
 rw [wd1,if_neg (by simp),show textM ca1=li1 by unfold textM;rw [wd1];rfl] at this
 exact this
theorem pa2:parseM li2=some ca2:=by
 have:=o_px good2
 rw [wd2,if_neg (by simp),show textM ca2=li2 by unfold textM;rw [wd2];rfl] at this
 exact this
theorem pa3:parseM li3=some ca3:=by
 have:=o_px good3
 rw [wd3,if_neg (by simp),show textM ca3=li3 by unfold textM;rw [wd3];rfl] at this
 exact this
theorem parse1:Eqn Tryz.prog o_bp [.d (.str (bst li1))] [] (.tup [.d (cmG 1 0 0 (.sl 4 [.int .i64 1,.int .i64 2,.int .i64 1,.int .i64 3])),.d (.int .i64 0)]) []:=by
 have:=o_td li1 (by decide) (by decide)
 rw [pa1] at this;exact this
theorem parse2:Eqn Tryz.prog o_bp [.d (.str (bst li2))] [] (.tup [.d (cmG 2 1 2 .nilsl),.d (.int .i64 0)]) []:=by
 have:=o_td li2 (by decide) (by decide)
 rw [pa2] at this;exact this
theorem parse3:Eqn Tryz.prog o_bp [.d (.str (bst li3))] [] (.tup [.d (cmG 4 1 0 .nilsl),.d (.int .i64 0)]) []:=by
 have:=o_td li3 (by decide) (by decide)
 rw [pa3] at this;exact this
def undV:V→D
 | .d x=>x
 | _=>.nilp
def txA:List Nat:=li1++10::(li2++10::(li3++[10]))
theorem spA:spltN 10 txA=[li1,li2,li3,[]]:=by decide
set_option maxHeartbeats 4000000 in
theorem o_tn:Eqn Tryz.prog o_bs [.d (.str (bst txA)),.d .nilsl] [] (.d (.str (bst [111,107,32,49,10,111,107,10,50,10]))) []:=by
 refine Eqn.pure o_bu (o_6a _) ?_
 refine cc (c':=?z274) ?_ ?_
 case refine_1=>cbv<;>exact rfl
 have hbo:=o_qw
 have hd1:=o_qx
 have hd2:=o_qy
 have hd3:=o_r1
 have ha1:=o_qz
 have ha2:=o_r0
 have ha3:=o_r2
 have hp1:=parse1
 have hp2:=parse2
 have hp3:=parse3
 unfold machG tapeE at hbo hd1 hd2 hd3
 have hsp:=o_qi 10 (by decide) txA (by decide) (by decide)
 rw [spA] at hsp
 have hb:bst [10]=⟨#[10]⟩:=rfl
 have hn:bst []=⟨#[]⟩:=rfl
 have hsv:strV [li1,li2,li3,[]]=[.d (.str (bst li1)),.d (.str (bst li2)),.d (.str (bst li3)),.d (.str ⟨#[]⟩)]:=rfl
 rw [hsv,hb] at hsp
 have e1:(⟨#[111,107,32,49]⟩:ByteArray)=bst [111,107,32,49]:=rfl
 have e2:(⟨#[111,107]⟩:ByteArray)=bst [111,107]:=rfl
 have e3:(⟨#[50]⟩:ByteArray)=bst [50]:=rfl
 rw [e1] at ha1
 rw [e2] at ha2
 rw [e3] at ha3
 have hu1:=o_r6 [] [111,107,32,49] (by simp)
 have hu2:=o_r6 [[111,107,32,49]] [111,107] (by simp)
 have hu3:=o_r6 [[111,107,32,49],[111,107]] [50] (by simp)
 have hfl:=o_r9 [[111,107,32,49],[111,107],[50]] (by simp) (by simp) (by simp [linesN])
 have hlN:linesN [[111,107,32,49],[111,107],[50]]=[111,107,32,49,10,111,107,10,50,10]:=rfl
 rw [hlN] at hfl
 have hst:=bstrB [.int .i64 64] [111,107,32,49,10,111,107,10,50,10] (by simp) (by simp) (by simp)
 simp only [boxZ,boxU,chO,byO,List.cons_append,List.nil_append,List.map_cons,List.map_nil,List.length_cons,List.length_nil,cmG,repG,rat0] at hfl hu1 hu2 hu3 hst hp1 hp2 hp3 hd1 hd2 hd3 ha1 ha2 ha3
 simp only [List.length_cons,List.length_nil] at hsp
 have hln:¬(65536:Int)<(bst txA).size:=by decide
 have z1:(bst li1).toList.isEmpty=false:=o_q3 li1
 have z2:(bst li2).toList.isEmpty=false:=o_q3 li2
 have z3:(bst li3).toList.isEmpty=false:=o_q3 li3
 generalize bst txA=tx at *
 generalize bst li1=l1 at *
 generalize bst li2=l2 at *
 generalize bst li3=l3 at *
 generalize bst [111,107,32,49]=a1 at *
 generalize bst [111,107]=a2 at *
 generalize bst [50]=a3 at *
 generalize [111,107,32,49,10,111,107,10,50,10]=rw at *
 obtain ⟨mc0,hm0⟩:∃l:List D,itZ++(itZ++repsL 15 itZ [])=l.map .d:=⟨(itZ++(itZ++repsL 15 itZ [])).map undV,rfl⟩
 obtain ⟨mc1,hm1⟩:∃l:List D,itZ++(itG 0++repsL 15 itZ [])=l.map .d:=⟨(itZ++(itG 0++repsL 15 itZ [])).map undV,rfl⟩
 obtain ⟨mc2,hm2⟩:∃l:List D,itZ++(itG 2++repsL 15 itZ [])=l.map .d:=⟨(itZ++(itG 2++repsL 15 itZ [])).map undV,rfl⟩
 rw [hm0] at hbo hd1
 rw [hm1] at hd1 hd2
 rw [hm2] at hd2 hd3
 refine A00 ?_;try with_reducible exact tt
 refine AW.scope ?_
 refine A10 hln ?_;try with_reducible exact tt
 refine CallS.g [] (hbo) (R0 ?_);try with_reducible exact tt
 refine A00 ?_;try with_reducible exact tt
 refine CallS.g [] (hsp) (R0 ?_);try with_reducible exact tt
 refine A00 ?_;try with_reducible exact tt
 refine AW.rounds 6 (AWu.next ?_)
 refine A11 z1 hp1 ?_;try with_reducible exact tt
 refine CallS.g [2,3] (hd1) (R0 ?_);try with_reducible exact tt
 refine A01 ha1 ?_;try with_reducible exact tt
 refine CallS.g [1,0] (hu1) (R0 ?_);try with_reducible exact tt
 refine A11 z2 hp2 ?_;try with_reducible exact tt
 refine CallS.g [2,3] (hd2) (R0 ?_);try with_reducible exact tt
 refine A01 ha2 ?_;try with_reducible exact tt
 refine CallS.g [1,0] (hu2) (R0 ?_);try with_reducible exact tt
 refine A11 z3 hp3 ?_;try with_reducible exact tt
 refine CallS.g [2,3] (hd3) (R0 ?_);try with_reducible exact tt
 refine A01 ha3 ?_;try with_reducible exact tt
 refine CallS.g [1,0] (hu3) (R0 ?_);try with_reducible exact tt
 refine A00 ?_;try with_reducible exact tt
 refine CallS.g [1,0] (hfl) (R0 ?_);try with_reducible exact tt
 refine A00 ?_;try with_reducible exact tt
 refine CallS.g [1,0,8] (hst) (R0 ?_);try with_reducible exact tt
theorem o_to:Eqn Tryz.prog o_cq [] [] (.d (.bool true)) []:=by
 refine Eqn.pure o_cs (o_6a _) ?_
 have h:=o_tn
 refine cc (c':=?z275) ?_ ?_
 case refine_1=>cbv<;>exact rfl
 have e1:bst txA=⟨#[110,101,119,32,49,32,50,32,49,32,51,10,97,100,100,32,49,32,48,32,50,10,113,117,101,114,121,32,49,32,48,32,48,32,48,10]⟩:=rfl
 have e2:bst [111,107,32,49,10,111,107,10,50,10]=⟨#[111,107,32,49,10,111,107,10,50,10]⟩:=rfl
 rw [e1,e2] at h
 refine A01 h ?_;try with_reducible exact tt
end
section
open Go.RowKit
theorem o_tp (n:Nat) (h0:0<n) (h:n≤9223372036854775808):Eqn Tryz.prog o_e8 [.d (.int .i64 (-(n:Int)))] [] (.d (zW 0 n)) []:=by
 refine Eqn.pure o_ea Plain.ok ?_
 have h1:=o_jx n (by omega)
 have e0:IntKind.i64.wrap (-(n:Int)+1) = -(n:Int)+1:=w64 (by omega) (by omega)
 have e4:IntKind.i64.wrap (-(-(n:Int)+1))=(n:Int)-1:=by rw [w64 (by omega) (by omega)];omega
 have e5:IntKind.i64.wrap (-1+(n:Int))=(n:Int)-1:=by rw [w64 (by omega) (by omega)];omega
 have e1:IntKind.u64.wrap ((n:Int)-1)=(n:Int)-1:=by rw [IntKind.wrap_u64];omega
 have e6:IntKind.u64.wrap ((n:Int)-1+1)=n:=by rw [IntKind.wrap_u64];omega
 have e7:IntKind.u64.wrap (n:Int)=n:=by rw [IntKind.wrap_u64];omega
 have e2:¬(0:Int)≤-(n:Int):=by omega
 have e3:¬n=0:=by omega
 refine cc (c':=?z276) ?_ ?_
 case refine_1=>cbv<;>exact rfl
 try simp only [zW]
 rw [o_jg]
 generalize qN:nD n=N at *
 obtain ⟨nN,lN,rfl⟩:∃n l,N=D.sl n l:=⟨_,_,qN.symm⟩
 clear qN
 refine A10 (fs e0 (fs e4 (fs e5 (fs e1 (fs e6 (fs e7 (fs e2 e3))))))) ?_;try with_reducible exact tt
 refine CallS.pf 1 1 ⟨24,[.d (.int .u64 n)]⟩ [.int .u64 n] (h1) (by first | rfl | (simp [e0,e1,e2,e3];done)) (R1 (fs e0 (fs e1 (fs e2 e3))) ?_);try with_reducible exact tt
 exact Sub1.aggd (Subs.cons Sub1.nil (Subs.cons (Sub1.refl _) (Subs.refl _)))
theorem o_tq (n:Nat) (h:n<18446744073709551616):Eqn Tryz.prog o_e2 [.d (.bool false),.d (.sl 1 [.int .u64 n])] [] (.d (zW n 0)) []:=by
 refine Eqn.pure o_e4 Plain.ok ?_
 have h1:=o_jx n (by omega)
 refine cc (c':=?z277) ?_ ?_
 case refine_1=>cbv<;>exact rfl
 try simp only [zW]
 rw [o_jg]
 generalize qN:nD n=N at *
 obtain ⟨nN,lN,rfl⟩:∃n l,N=D.sl n l:=⟨_,_,qN.symm⟩
 clear qN
 refine A01 h1 ?_;try with_reducible exact tt
 exact Sub1.aggd (Subs.cons (Sub1.refl _) (Subs.cons Sub1.nil (Subs.refl _)))
theorem o_tr (p m:Nat) (h1:p<2^64) (h2:m<2^64):Eqn Tryz.prog o_eb [.d (zW p m)] [] (.d (.str (bst (itoaN ((p:Int)-m))))) []:=by
 refine Eqn.pure o_ed (o_6a _) ?_
 have a1:=o_k5 p m 64 (by omega) h1 h2
 have a2:=o_k6 p m 64 (by omega) h1 h2
 have a3:=o_ki ((p:Int)-m).natAbs (by
  have:((p:Int)-m).natAbs<2^64:=by omega
  exact sizeB this (by omega))
 have hr:bst (itoaN ((p:Int)-m))=if p<m then ⟨#[45]⟩++txt ((p:Int)-m).natAbs else txt ((p:Int)-m).natAbs:=by
  unfold itoaN
  by_cases h:p<m
  ·rw [if_pos h,if_pos (by omega)]
   show bst ([45]++_)=_
   rw [←o_gi];rfl
  ·rw [if_neg h,if_neg (by omega)];rfl
 rw [hr]
 have hsz:(⟨#[45]⟩:ByteArray).size+(txt ((p:Int)-m).natAbs).size≤9223372036854775807:=by
  have:=o_jz (n:=((p:Int)-m).natAbs) (E:=64) (by omega) (by omega)
  show 1+_≤_
  omega
 refine cc (c':=?z278) ?_ ?_
 case refine_1=>cbv<;>exact rfl
 try simp only [zW] at a1 a2 ⊢
 generalize txt ((p:Int)-m).natAbs=tx at *
 generalize qD2:nD ((p:Int)-m).natAbs=D2 at *
 generalize qD3:nD p=D3 at *
 obtain ⟨nD3,lD3,rfl⟩:∃n l,D3=D.sl n l:=⟨_,_,qD3.symm⟩
 clear qD3
 generalize qD4:nD m=D4 at *
 obtain ⟨nD4,lD4,rfl⟩:∃n l,D4=D.sl n l:=⟨_,_,qD4.symm⟩
 clear qD4
 by_cases h:p<m
 ·rw [if_pos h]
  simp only [h,decide_true] at a1
  refine A13 hsz a1 a2 a3 ?_;try with_reducible exact tt
 ·rw [if_neg h]
  simp only [h,decide_false] at a1
  refine A03 a1 a2 a3 ?_;try with_reducible exact tt
theorem o_ts (v:Int) (hv:inR v):Eqn Tryz.prog o_cz [.d (.int .i64 v)] [] (.d (.str (bst (itoaN v)))) []:=by
 refine Eqn.pure o_d1 (o_6a _) ?_
 refine cc (c':=?z279) ?_ ?_
 case refine_1=>cbv<;>exact rfl
 unfold inR at hv
 rcases Int.lt_or_le v 0 with h | h
 ·obtain ⟨n,rfl⟩:∃n:Nat,v = -(n:Int):=⟨v.natAbs,by omega⟩
  have h1:=o_tp n (by omega) (by omega)
  have h2:=o_tr 0 n (by omega) (by omega)
  rw [show ((0:Nat):Int)-(n:Int) = -(n:Int) by omega] at h2
  generalize bst (itoaN (-(n:Int)))=tx at *
  generalize zW 0 n=z at *
  refine A02 h1 h2 ?_;try with_reducible exact tt
 ·obtain ⟨n,rfl⟩:∃n:Nat,v=(n:Int):=⟨v.toNat,by omega⟩
  have h1:=o_k7 n (by omega)
  have h2:=o_tr n 0 (by omega) (by omega)
  rw [show (n:Int)-((0:Nat):Int)=(n:Int) by omega] at h2
  generalize bst (itoaN (n:Int))=tx at *
  generalize zW n 0=z at *
  refine A02 h1 h2 ?_;try with_reducible exact tt
theorem o_tt (n:Nat) (h:n<18446744073709551616):Eqn Tryz.prog o_cw [.d (.int .u64 n)] [] (.d (.str (bst (decN n)))) []:=by
 refine Eqn.pure o_cy (o_6a _) ?_
 refine cc (c':=?z280) ?_ ?_
 case refine_1=>cbv<;>exact rfl
 have h1:=o_tq n h
 have h2:=o_tr n 0 (by omega) (by omega)
 rw [show itoaN ((n:Int)-((0:Nat):Int))=decN n by unfold itoaN;rw [if_neg (by omega)];congr 1] at h2
 generalize bst (decN n)=tx at *
 generalize zW n 0=z at *
 refine A00 ?_;try with_reducible exact tt
 refine CallS.pf 0 1 ⟨24,[.d (.int .u64 n)]⟩ [.int .u64 n] (h1) (by first | rfl | (simp;done)) (R0 ?_);try with_reducible exact tt
 refine A01 h2 ?_;try with_reducible exact tt
end
section
open Go.RowKit
def byD (l:List Nat):List D:=l.map fun n:Nat=>.int .u8 n
def SlI (N:D) (l:List Int):Prop:=N = .sl l.length (intD l)∨(l=[]∧N = .nilsl)
def SlB (B:D) (l:List Nat):Prop:=B = .sl l.length (byD l)∨(l=[]∧B = .nilsl)
theorem SlI.len {N:D} {l:List Int} (h:SlI N l):lenV (.d N)=some (l.length:Int):=by
 rcases h with rfl | ⟨rfl,rfl⟩<;>rfl
theorem SlB.len {N:D} {l:List Nat} (h:SlB N l):lenV (.d N)=some (l.length:Int):=by
 rcases h with rfl | ⟨rfl,rfl⟩<;>rfl
theorem o_tu:∀ws:List (List Nat),Lib.join (ws.map u8l) (u8l [32])=u8l (joinN 32 ws)
 | []=>rfl
 | [w]=>by simp [Lib.join,List.intercalate,joinN]
 | w::v::r=>by
  have ih:=o_tu (v::r)
  rw [List.map_cons,Lib.join_cons] at ih
  rw [List.map_cons,Lib.join_cons,List.map_cons,joinN,o_oc]
  show u8l w++Lib.joinTail [32] (u8l v::r.map u8l)=_
  have e:Lib.joinTail [32] (u8l v::r.map u8l)=32::(u8l v++Lib.joinTail [32] (r.map u8l)):=by simp [Lib.joinTail]
  rw [e]
  congr 1
  show 32::(u8l v++Lib.joinTail (u8l [32]) (r.map u8l))=_
  rw [ih]
  rfl
theorem o_tv (ws:List (List Nat)) (hn:ws.length≤1000000) (hl:(joinN 32 ws).length≤100000000) :
  Eqn Tryz.prog o_as [.d (.sl ws.length (strD ws)),.d (.str ⟨#[32]⟩)] [] (.d (.str (bst (joinN 32 ws)))) []:=by
 have h:=o_p5 (ws.map bst) (bst [32]) (by simp;omega) ?_
 ·have e1:(ws.map bst).map (fun x=>x.data.toList)=ws.map u8l:=by rw [List.map_map];rfl
  have e2:(bst [32]).data.toList=u8l [32]:=rfl
  rw [e1,e2,o_tu] at h
  have e3:(ws.map bst).map D.str=strD ws:=by rw [List.map_map];rfl
  rw [e3,List.length_map] at h
  exact h
 ·have e1:(ws.map bst).map (fun x=>x.data.toList)=ws.map u8l:=by rw [List.map_map];rfl
  have e2:(bst [32]).data.toList=u8l [32]:=rfl
  rw [e1,e2,o_tu]
  unfold u8l
  rw [List.length_map];omega
theorem o_tw (a b:List (List Nat)):strV (a++b)=strV a++strV b:=by simp [strV]
theorem o_tx (c:CmdM) (N B:D) (hc:inR c.op) (h:wordN c.op=[]):Eqn Tryz.prog o_bv [.d (.agg (cmdD c N B))] [] (.d (.str (bst []))) []:=by
 rw [show bst []=⟨#[]⟩ from rfl]
 refine Eqn.pure o_bx (o_6a _) ?_
 refine cc (c':=?z281) ?_ ?_
 case refine_1=>cbv<;>exact rfl
 try simp only [cmdD]
 have hw:=o_re c.op hc
 rw [h] at hw
 have he:=o_q3 []
 generalize bst []=z at *
 have he2:z.toList.isEmpty=true:=he
 refine A11 he2 hw ?_;try with_reducible exact tt
set_option maxHeartbeats 16000000 in
theorem o_ty (c:CmdM) (N B:D) (hc:c.Good) (hN:SlI N c.nums) (hB:SlB B c.bytes) (hw0:wordN c.op≠[]) (h1:c.op≠1) (h8:c.op≠8) (hlen:(joinN 32 (wordN c.op::(fldsN c.op.toNat).map (getF c))).length≤100000000) :
  Eqn Tryz.prog o_bv [.d (.agg (cmdD c N B))] [] (.d (.str (bst (joinN 32 (wordN c.op::(fldsN c.op.toNat).map (getF c)))))) []:=by
 refine Eqn.pure o_bx (o_6a _) ?_
 refine cc (c':=?z282) ?_ ?_
 case refine_1=>cbv<;>exact rfl
 have hw:=o_re c.op hc.op
 obtain ⟨k,hk,hk0,hk10,hwk⟩:=o_o6 hw0
 have hkn:c.op.toNat=k:=by omega
 have hf:=o_rk c N B hc.op
 rw [hkn] at hf
 obtain ⟨hfn,hf4⟩:=o_so k hk10 (by omega) (by omega) (by omega)
 replace hf:=hf hfn (by omega)
 rw [o_su] at hf
 rw [hkn] at hlen ⊢
 generalize fldsN k=L at *
 have hj:=o_tv (wordN c.op::L.map (getF c)) (by simp;omega) hlen
 have hwe:(bst (wordN c.op)).toList.isEmpty=false:=by rw [o_q3];cases hq:wordN c.op with
  | nil=>exact absurd hq hw0
  | cons a b=>rfl
 generalize joinN 32 (wordN c.op::L.map (getF c))=res at *
 generalize hwo:wordN c.op=w at *
 have g1:(c.op==1)=false:=by simpa using h1
 have g8:(c.op==8)=false:=by simpa using h8
 simp only [cmdD,List.map_cons,List.map_nil] at hf ⊢
 refine A11 (fs hwe (fs h1 h8)) hw ?_;try with_reducible exact tt
 refine CallS.g [0] (hf) (R0 ?_);try with_reducible exact tt
 refine AW.loopG (α:=Nat) (fun i=>setS (List.replicate 82 .junk) [(1,.p 0 0),(3,.own 1 1 (i+1)),(68,.own 2 2 L.length),(69,.d (.int .i64 L.length)),(70,.d (.int .i64 (i:Nat)))]) (fun i=>[some ⟨28,[.d (.int .i64 c.op),.d (.int .i64 c.h),.d (.int .i64 c.o),.d (.int .i64 c.i),.d (.int .i64 c.n),.d (.int .u64 c.key),.d N,.d B]⟩,some ⟨9,strV (w::(L.map (getF c)).take i)⟩,some ⟨87,fldsW 0 L⟩]) (fun i=>i≤L.length) (fun i=>L.length-i) 0 ?_ (Nat.zero_le _) ?_ ?_ ?_
 ·intro i _;exact Nat.zero_le _
 ·simp
 ·simp [strV,o_sy]
 rintro i hi
 by_cases hiL:i<L.length
 ·have hi1:(i:Int)<L.length:=by omega
  have hg:=o_sz 0 i L hiL
  have hsn:strV (w::(L.map (getF c)).take (i+1))=strV ((w::(L.map (getF c)).take i)++[getF c L[i]]):=by
   rw [List.take_succ_eq_append_getElem (by simpa using hiL),List.getElem_map];rfl
  have hlr:(strV (w::(L.map (getF c)).take i)).length=i+1:=by simp;omega
  have hbd:i*2+2≤L.length*2:=by omega
  have hk2:(i+1+1)*16≤140737488355328:=by omega
  have ew:IntKind.i64.wrap ((i:Int)+1)=(i:Int)+1:=w64 (by omega) (by omega)
  generalize w::(L.map (getF c)).take i=RW at *
  generalize L[i]=f at *
  cases f with
  | h =>
   have ht:=o_ri 28 (by decide) (cmdD c N B) 1 c.h hc.h rfl
   simp only [fldW,offF] at hg
   have hgf:getF c .h=itoaN c.h:=rfl
   rw [hgf] at hsn
   generalize itoaN c.h=tx at *
   simp only [cmdD,List.map_cons,List.map_nil] at ht
   simp
   refine A10 (fs hi1 (fs hg hbd)) ?_;try with_reducible exact tt
   refine CallS.g [0] (ht) (R1 (fs hi1 (fs hlr hk2)) ?_);try with_reducible exact tt
   refine A10 ew ?_;try with_reducible exact tt
   refine ⟨i+1,1,5,by simp,by omega,by omega,?_,?_⟩
   ·simp [swT,swH,sw,Ob.sw,V.ren,V.rens]
   ·simp [swT,swH,sw,Ob.sw,V.ren,V.rens,o_sy]
    rw [hsn,show strV RW++[V.d (.str (bst tx))]=strV (RW++[tx]) from (o_tw RW [tx]).symm];first | exact Subs.refl _ | (rw [o_q6];exact Subs.refl _)
  | o =>
   have ht:=o_ri 28 (by decide) (cmdD c N B) 2 c.o hc.o rfl
   simp only [fldW,offF] at hg
   have hgf:getF c .o=itoaN c.o:=rfl
   rw [hgf] at hsn
   generalize itoaN c.o=tx at *
   simp only [cmdD,List.map_cons,List.map_nil] at ht
   simp
   refine A10 (fs hi1 (fs hg hbd)) ?_;try with_reducible exact tt
   refine CallS.g [0] (ht) (R1 (fs hi1 (fs hlr hk2)) ?_);try with_reducible exact tt
   refine A10 ew ?_;try with_reducible exact tt
   refine ⟨i+1,1,5,by simp,by omega,by omega,?_,?_⟩
   ·simp [swT,swH,sw,Ob.sw,V.ren,V.rens]
   ·simp [swT,swH,sw,Ob.sw,V.ren,V.rens,o_sy]
    rw [hsn,show strV RW++[V.d (.str (bst tx))]=strV (RW++[tx]) from (o_tw RW [tx]).symm];first | exact Subs.refl _ | (rw [o_q6];exact Subs.refl _)
  | i =>
   have ht:=o_ri 28 (by decide) (cmdD c N B) 3 c.i hc.i rfl
   simp only [fldW,offF] at hg
   have hgf:getF c .i=itoaN c.i:=rfl
   rw [hgf] at hsn
   generalize itoaN c.i=tx at *
   simp only [cmdD,List.map_cons,List.map_nil] at ht
   simp
   refine A10 (fs hi1 (fs hg hbd)) ?_;try with_reducible exact tt
   refine CallS.g [0] (ht) (R1 (fs hi1 (fs hlr hk2)) ?_);try with_reducible exact tt
   refine A10 ew ?_;try with_reducible exact tt
   refine ⟨i+1,1,5,by simp,by omega,by omega,?_,?_⟩
   ·simp [swT,swH,sw,Ob.sw,V.ren,V.rens]
   ·simp [swT,swH,sw,Ob.sw,V.ren,V.rens,o_sy]
    rw [hsn,show strV RW++[V.d (.str (bst tx))]=strV (RW++[tx]) from (o_tw RW [tx]).symm];first | exact Subs.refl _ | (rw [o_q6];exact Subs.refl _)
  | n =>
   have ht:=o_ri 28 (by decide) (cmdD c N B) 4 c.n hc.n rfl
   simp only [fldW,offF] at hg
   have hgf:getF c .n=itoaN c.n:=rfl
   rw [hgf] at hsn
   generalize itoaN c.n=tx at *
   simp only [cmdD,List.map_cons,List.map_nil] at ht
   simp
   refine A10 (fs hi1 (fs hg hbd)) ?_;try with_reducible exact tt
   refine CallS.g [0] (ht) (R1 (fs hi1 (fs hlr hk2)) ?_);try with_reducible exact tt
   refine A10 ew ?_;try with_reducible exact tt
   refine ⟨i+1,1,5,by simp,by omega,by omega,?_,?_⟩
   ·simp [swT,swH,sw,Ob.sw,V.ren,V.rens]
   ·simp [swT,swH,sw,Ob.sw,V.ren,V.rens,o_sy]
    rw [hsn,show strV RW++[V.d (.str (bst tx))]=strV (RW++[tx]) from (o_tw RW [tx]).symm];first | exact Subs.refl _ | (rw [o_q6];exact Subs.refl _)
  | key =>
   have ht:=o_rj 28 (by decide) (cmdD c N B) 5 c.key hc.key rfl
   simp only [fldW,offF] at hg
   have hgf:getF c .key=decN c.key:=rfl
   rw [hgf] at hsn
   generalize decN c.key=tx at *
   simp only [cmdD,List.map_cons,List.map_nil] at ht
   simp
   refine A10 (fs hi1 (fs hg hbd)) ?_;try with_reducible exact tt
   refine CallS.g [0] (ht) (R1 (fs hi1 (fs hlr hk2)) ?_);try with_reducible exact tt
   refine A10 ew ?_;try with_reducible exact tt
   refine ⟨i+1,1,5,by simp,by omega,by omega,?_,?_⟩
   ·simp [swT,swH,sw,Ob.sw,V.ren,V.rens]
   ·simp [swT,swH,sw,Ob.sw,V.ren,V.rens,o_sy]
    rw [hsn,show strV RW++[V.d (.str (bst tx))]=strV (RW++[tx]) from (o_tw RW [tx]).symm];first | exact Subs.refl _ | (rw [o_q6];exact Subs.refl _)
 ·have hi0:i=L.length:=by omega
  have hi1:¬(i:Int)<L.length:=by omega
  have htt:w::(L.map (getF c)).take i=w::L.map (getF c):=by rw [List.take_of_length_le (by simp;omega)]
  rw [htt,hi0] at *
  have htk:(strD (w::L.map (getF c))).take (L.length+1)=strD (w::L.map (getF c)):=List.take_of_length_le (by simp)
  have hll:(w::L.map (getF c)).length=L.length+1:=by simp
  rw [hll] at hj
  generalize w::L.map (getF c)=WS at *
  have hi2:¬(L.length:Int)<L.length:=by omega
  have hsd:=o_q5 WS
  simp [hsd]
  refine A00 ?_;try with_reducible exact tt
  refine CallS.pf 1 1 ⟨9,(strD WS).map .d⟩ (strD WS) (hj) (by first | rfl | (simp [htk];done)) (R1 htk ?_);try with_reducible exact tt
end
section
open Go.RowKit
theorem SlB.sl {B:D} {l:List Nat} (h:SlB B l) (h0:l≠[]):B = .sl l.length (byD l):=by
 rcases h with h | ⟨h,_⟩
 ·exact h
 ·exact absurd h h0
theorem SlI.sl {B:D} {l:List Int} (h:SlI B l) (h0:l≠[]):B = .sl l.length (intD l):=by
 rcases h with h | ⟨h,_⟩
 ·exact h
 ·exact absurd h h0
set_option maxHeartbeats 16000000 in
theorem o_tz (c:CmdM) (N B:D) (hc:c.Good) (hN:SlI N c.nums) (hB:SlB B c.bytes) (h8:c.op=8) (hlen:c.bytes.length≤1000000) :
  Eqn Tryz.prog o_bv [.d (.agg (cmdD c N B))] [] (.d (.str (bst (joinN 32 [wordN c.op,if c.bytes=[] then [45] else hexN c.bytes])))) []:=by
 refine Eqn.pure o_bx (o_6a _) ?_
 refine cc (c':=?z283) ?_ ?_
 case refine_1=>cbv<;>exact rfl
 have hw:=o_re c.op hc.op
 have hf:=o_rl c N B hc.op (by rw [h8];decide)
 have hwo:wordN c.op=[100,101,99,111,100,101]:=by rw [h8];rfl
 rw [hwo] at hw ⊢
 rw [h8] at hw
 have hwe:(bst [100,101,99,111,100,101]).toList.isEmpty=false:=by rw [o_q3];rfl
 obtain ⟨tx,htx⟩:∃tx,tx=if c.bytes=[] then [45] else hexN c.bytes:=⟨_,rfl⟩
 rw [←htx]
 have htl:tx.length≤3000000:=by
  rw [htx];split
  ·simp
  ·rw [o_s4];omega
 have hj:=o_tv [[100,101,99,111,100,101],tx] (by simp) (by simp [joinN];omega)
 generalize joinN 32 [[100,101,99,111,100,101],tx]=res at *
 generalize hwz:bst [100,101,99,111,100,101]=w at *
 simp only [cmdD,List.map_cons,List.map_nil,h8] at hf ⊢
 have hj2:Eqn Tryz.prog o_as [.d (.sl 2 [.str w,.str (bst tx)]),.d (.str ⟨#[32]⟩)] [] (.d (.str (bst res))) []:=by
  rw [←hwz];exact hj
 by_cases hb:c.bytes=[]
 ·have htx2:tx=[45]:=by rw [htx,if_pos hb]
  have hB2:B = .sl 0 []∨B = .nilsl:=by
   rcases hB with h | ⟨_,h⟩
   ·left;rw [h,hb];rfl
   ·exact .inr h
  rw [htx2] at hj2
  have h45:bst [45]=⟨#[45]⟩:=rfl
  rw [h45] at hj2
  rcases hB2 with rfl | rfl
  ·refine A11 hwe hw ?_;try with_reducible exact tt
   refine CallS.g [0] (hf) (R1 hwe ?_);try with_reducible exact tt
   refine AW.loopE (α:=Unit) (fun _=>setS (List.replicate 82 .junk) [(3,.own 3 1 2),(69,.d (.int .i64 0)),(70,.d (.int .i64 0))]) (fun _=>[none,none,none,some ⟨9,[.d (.str w),.d (.str ⟨#[45]⟩)]⟩]) (fun _=>True) (fun _=>0) () ?_ trivial ?_ ?_ ?_
   ·intro i _;exact Nat.zero_le _
   ·simp
   ·simp
   rintro _ _
   simp
   refine A00 ?_;try with_reducible exact tt
   refine CallS.pf 3 1 ⟨9,[.d (.str w),.d (.str ⟨#[45]⟩)]⟩ [.str w,.str ⟨#[45]⟩] (hj2) (by first | rfl | (simp;done)) (R0 ?_);try with_reducible exact tt
  ·refine A11 hwe hw ?_;try with_reducible exact tt
   refine CallS.g [0] (hf) (R1 hwe ?_);try with_reducible exact tt
   refine AW.loopE (α:=Unit) (fun _=>setS (List.replicate 82 .junk) [(3,.own 3 1 2),(69,.d (.int .i64 0)),(70,.d (.int .i64 0))]) (fun _=>[none,none,none,some ⟨9,[.d (.str w),.d (.str ⟨#[45]⟩)]⟩]) (fun _=>True) (fun _=>0) () ?_ trivial ?_ ?_ ?_
   ·intro i _;exact Nat.zero_le _
   ·simp
   ·simp
   rintro _ _
   simp
   refine A00 ?_;try with_reducible exact tt
   refine CallS.pf 3 1 ⟨9,[.d (.str w),.d (.str ⟨#[45]⟩)]⟩ [.str w,.str ⟨#[45]⟩] (hj2) (by first | rfl | (simp;done)) (R0 ?_);try with_reducible exact tt
 ·have htx2:tx=hexN c.bytes:=by rw [htx,if_neg hb]
  have hBs:=hB.sl hb
  have hh:=o_s8 c.bytes hc.bytes hb (by omega)
  have hbl:¬c.bytes.length=0:=by have:=List.length_pos_iff.2 hb;omega
  have hbe:byD c.bytes=c.bytes.map fun n:Nat=>D.int .u8 n:=rfl
  rw [hBs] at hf ⊢
  rw [←hbe,←htx2] at hh
  refine A12 (fs hwe (fs hbl hb)) hw hh ?_;try with_reducible exact tt
  refine CallS.g [0] (hf) (R1 (fs hwe (fs hbl hb)) ?_);try with_reducible exact tt
  refine AW.loopE (α:=Unit) (fun _=>setS (List.replicate 82 .junk) [(3,.own 3 1 2),(69,.d (.int .i64 0)),(70,.d (.int .i64 0))]) (fun _=>[none,none,none,some ⟨9,[.d (.str w),.d (.str (bst tx))]⟩]) (fun _=>True) (fun _=>0) () ?_ trivial ?_ ?_ ?_
  ·intro i _;exact Nat.zero_le _
  ·simp
  ·simp
  rintro _ _
  simp
  refine A00 ?_;try with_reducible exact tt
  refine CallS.pf 3 1 ⟨9,[.d (.str w),.d (.str (bst tx))]⟩ [.str w,.str (bst tx)] (hj2) (by first | rfl | (simp;done)) (R0 ?_);try with_reducible exact tt
end
section
open Go.RowKit
theorem o_u0 (c:CmdM) (N B:D) (hc:c.Good) (hN:SlI N c.nums) (h1:c.op=1) (h0:c.nums=[]):Eqn Tryz.prog o_bv [.d (.agg (cmdD c N B))] [] (.d (.str (bst []))) []:=by
 rw [show bst []=⟨#[]⟩ from rfl]
 have hw:=o_re c.op hc.op
 have hwo:wordN c.op=[110,101,119]:=by rw [h1];rfl
 rw [hwo,h1] at hw
 have hwe:(bst [110,101,119]).toList.isEmpty=false:=by rw [o_q3];rfl
 generalize hwz:bst [110,101,119]=w at *
 have hB2:N = .sl 0 []∨N = .nilsl:=by
  rcases hN with h | ⟨_,h⟩
  ·left;rw [h,h0];rfl
  ·exact .inr h
 rcases hB2 with rfl | rfl
 ·refine Eqn.pure o_bx (o_6a _) ?_
  refine cc (c':=?z284) ?_ ?_
  case refine_1=>cbv<;>exact rfl
  try simp only [cmdD,h1]
  refine A11 hwe hw ?_;try with_reducible exact tt
 ·refine Eqn.pure o_bx (o_6a _) ?_
  refine cc (c':=?z285) ?_ ?_
  case refine_1=>cbv<;>exact rfl
  try simp only [cmdD,h1]
  refine A11 hwe hw ?_;try with_reducible exact tt
set_option maxHeartbeats 16000000 in
theorem o_u1 (c:CmdM) (N B:D) (hc:c.Good) (hN:SlI N c.nums) (h1:c.op=1) (h0:c.nums≠[]) (hn:c.nums.length≤100000) (hlen:(joinN 32 (wordN c.op::c.nums.map itoaN)).length≤100000000) :
  Eqn Tryz.prog o_bv [.d (.agg (cmdD c N B))] [] (.d (.str (bst (joinN 32 (wordN c.op::c.nums.map itoaN))))) []:=by
 refine Eqn.pure o_bx (o_6a _) ?_
 refine cc (c':=?z286) ?_ ?_
 case refine_1=>cbv<;>exact rfl
 have hw:=o_re c.op hc.op
 have hf:=o_rl c N B hc.op (by rw [h1];decide)
 have hj:=o_tv (wordN c.op::c.nums.map itoaN) (by simp;omega) hlen
 have hwo:wordN c.op=[110,101,119]:=by rw [h1];rfl
 generalize joinN 32 (wordN c.op::c.nums.map itoaN)=res at *
 rw [hwo] at hw hj
 rw [h1] at hw
 have hwe:(bst [110,101,119]).toList.isEmpty=false:=by rw [o_q3];rfl
 generalize ([110,101,119]:List Nat)=w at *
 have hNs:=hN.sl h0
 have hnu:=hc.nums
 simp only [cmdD,List.map_cons,List.map_nil,h1] at hf ⊢
 generalize c.nums=l at *
 rw [hNs] at hf ⊢
 have hl0:0<l.length:=List.length_pos_iff.2 h0
 have hl1:¬l.length=0:=by omega
 have hl2:¬l=[]:=h0
 refine A11 (fs hwe (fs hl1 hl2)) hw ?_;try with_reducible exact tt
 refine AW.loopG (α:=Nat) (fun i=>setS (List.replicate 82 .junk) [(1,.p 0 0),(3,.own 1 1 (i+1)),(56,.d (.sl l.length (intD l))),(57,.d (.int .i64 l.length)),(58,.d (.int .i64 (i:Nat)))]) (fun i=>[some ⟨28,[.d (.int .i64 1),.d (.int .i64 c.h),.d (.int .i64 c.o),.d (.int .i64 c.i),.d (.int .i64 c.n),.d (.int .u64 c.key),.d (.sl l.length (intD l)),.d B]⟩,some ⟨9,strV (w::(l.map itoaN).take i)⟩]) (fun i=>i≤l.length) (fun i=>l.length-i) 0 ?_ (Nat.zero_le _) ?_ ?_ ?_
 ·intro i _;exact Nat.zero_le _
 ·simp
 ·simp [strV]
 rintro i hi
 by_cases hil:i<l.length
 ·have hi1:(i:Int)<l.length:=by omega
  have hit:=o_rc l[i] (hnu _ (List.getElem_mem ..))
  have hg:(intD l)[i]'(by simpa [intD] using hil) = .int .i64 l[i]:=by simp [intD]
  have hsn:strV (w::(l.map itoaN).take (i+1))=strV ((w::(l.map itoaN).take i)++[itoaN l[i]]):=by
   rw [List.take_succ_eq_append_getElem (by simpa using hil),List.getElem_map];rfl
  have hlr:(strV (w::(l.map itoaN).take i)).length=i+1:=by simp;omega
  have hk2:(i+1+1)*16≤140737488355328:=by omega
  have ew:IntKind.i64.wrap ((i:Int)+1)=(i:Int)+1:=w64 (by omega) (by omega)
  have hil2:i<(intD l).length:=by simpa [intD] using hil
  generalize w::(l.map itoaN).take i=RW at *
  generalize itoaN l[i]=tx at *
  generalize l[i]=z at *
  simp
  refine A11 (fs hi1 (fs hg (fs hil (fs hlr (fs hk2 (fs ew hil2)))))) hit ?_;try with_reducible exact tt
  refine ⟨i+1,1,3,by simp,by omega,by omega,?_,?_⟩
  ·simp [swT,swH,sw,Ob.sw,V.ren,V.rens]
  ·simp [swT,swH,sw,Ob.sw,V.ren,V.rens]
   rw [hsn,show strV RW++[V.d (.str (bst tx))]=strV (RW++[tx]) from (o_tw RW [tx]).symm];first | exact Subs.refl _ | (rw [o_q6];exact Subs.refl _)
 ·have hi0:i=l.length:=by omega
  have hi1:¬(i:Int)<l.length:=by omega
  have htt:w::(l.map itoaN).take i=w::l.map itoaN:=by rw [List.take_of_length_le (by simp;omega)]
  rw [htt,hi0] at *
  have htk:(strD (w::l.map itoaN)).take (l.length+1)=strD (w::l.map itoaN):=List.take_of_length_le (by simp)
  have hll:(w::l.map itoaN).length=l.length+1:=by simp
  rw [hll] at hj
  generalize w::l.map itoaN=WS at *
  have hsd:=o_q5 WS
  simp [hsd]
  refine A00 ?_;try with_reducible exact tt
  refine CallS.g [0] (hf) (R0 ?_);try with_reducible exact tt
  refine AW.loopE (α:=Unit) (fun _=>setS (List.replicate 82 .junk) [(3,.own 1 1 (l.length+1)),(69,.d (.int .i64 0)),(70,.d (.int .i64 0))]) (fun _=>[none,some ⟨9,(strD WS).map .d⟩]) (fun _=>True) (fun _=>0) () ?_ trivial ?_ ?_ ?_
  ·intro i _;exact Nat.zero_le _
  ·simp
  ·simp
  rintro _ _
  simp
  refine A00 ?_;try with_reducible exact tt
  refine CallS.pf 1 1 ⟨9,(strD WS).map .d⟩ (strD WS) (hj) (by first | rfl | (simp [htk];done)) (R1 htk ?_);try with_reducible exact tt
theorem o_u2 (c:CmdM) (N B:D) (hc:c.Good) (hN:SlI N c.nums) (hB:SlB B c.bytes) (hn:c.nums.length≤100000) (hb:c.bytes.length≤1000000) (hlen:(textM c).length≤100000000) :
  Eqn Tryz.prog o_bv [.d (.agg (cmdD c N B))] [] (.d (.str (bst (textM c)))) []:=by
 unfold textM textW at hlen ⊢
 split
 ·rename_i h;exact o_tx c N B hc.op h
 ·rename_i h
  rw [if_neg h] at hlen
  split
  ·rename_i h1
   rw [if_pos h1] at hlen
   split
   ·rename_i h2;exact o_u0 c N B hc hN h1 h2
   ·rename_i h2
    rw [if_neg h2] at hlen
    exact o_u1 c N B hc hN h1 h2 hn hlen
  ·rename_i h1
   rw [if_neg h1] at hlen
   split
   ·rename_i h8;exact o_tz c N B hc hN hB h8 hb
   ·rename_i h8
    rw [if_neg h8] at hlen
    exact o_ty c N B hc hN hB h h1 h8 hlen
end
section
open Go.RowKit
theorem o_u3 (n:Nat) (h:n<16):digS.extract n (n+1)=bst [dig n]:=by
 have:∀n,n<16→digS.extract n (n+1)=bst [dig n]:=by decide
 exact this n h
theorem o_u4 (B:D) (hB:SlB B []):Eqn Tryz.prog o_ct [.d B] [] (.d (.str (bst [45]))) []:=by
 refine Eqn.pure o_cv (o_6a _) ?_
 have e:bst [45]=⟨#[45]⟩:=rfl
 refine cc (c':=?z287) ?_ ?_
 case refine_1=>cbv<;>exact rfl
 rw [e]
 rcases hB with rfl | ⟨_,rfl⟩
 ·refine A00 ?_;try with_reducible exact tt
 ·refine A00 ?_;try with_reducible exact tt
set_option maxHeartbeats 4000000 in
theorem o_u5 (b:List Nat) (hb:∀x∈b,x<256) (h0:b≠[]) (hn:b.length≤10000000):Eqn Tryz.prog o_ct [.d (.sl b.length (byD b))] [] (.d (.str (bst (hexN b)))) []:=by
 refine Eqn.pure o_cv (o_6a _) ?_
 have hD:(⟨#[48,49,50,51,52,53,54,55,56,57,97,98,99,100,101,102]⟩:ByteArray)=digS:=rfl
 refine cc (c':=?z288) ?_ ?_
 case refine_1=>cbv<;>exact rfl
 try simp only [hD]
 have hds:=o_s1
 have hbl:0<b.length:=List.length_pos_iff.2 h0
 have hbz:¬b.length=0:=by omega
 refine A10 (fs hbz h0) ?_;try with_reducible exact tt
 refine AW.loopE (α:=Nat) (fun i=>setS (List.replicate 32 .junk) [(3,.d (.str (bst (hexN (b.take i))))),(9,.d (.sl b.length (byD b))),(10,.d (.int .i64 b.length)),(11,.d (.int .i64 (i:Nat)))]) (fun i=>[]) (fun i=>i≤b.length) (fun i=>b.length-i) 0 ?_ (Nat.zero_le _) ?_ ?_ ?_
 ·intro i _;exact Nat.zero_le _
 ·simp [hexN];exact Sub1.refl _
 ·simp
 rintro i hi
 by_cases hib:i<b.length
 ·have hi1:(i:Int)<b.length:=by omega
  have hg:(byD b)[i]?=some (.int .u8 (b[i]:Nat)):=o_s2 b i hib
  have hx:b[i]<256:=hb _ (List.getElem_mem ..)
  have hsn:=o_s3 (b.take i) b[i]
  rw [←List.take_succ_eq_append_getElem hib] at hsn
  have hln:=o_s4 (b.take i)
  rw [List.length_take] at hln
  obtain ⟨x,hxe⟩:∃x,b[i]=x:=⟨_,rfl⟩
  rw [hxe] at hx hsn hg
  have g1:=o_u3 (x/16) (by omega)
  have g2:=o_u3 (x%16) (by omega)
  have b2:bits BinOp.and IntKind.u8 (x:Int) 15=((x%16:Nat):Int):=and15 x hx
  have b3:((x:Int)/16).toNat=x/16:=by omega
  have b5:((x:Int)%16).toNat=x%16:=by omega
  have ew:IntKind.i64.wrap ((i:Int)+1)=(i:Int)+1:=w64 (by omega) (by omega)
  have hbd:(byD b).length=b.length:=by simp [byD]
  have hib2:i<(byD b).length:=by omega
  have hg3:(byD b)[i]'hib2 = .int .u8 x:=by simp [byD,hxe]
  have b4:((x:Int)/16+1).toNat=x/16+1:=by omega
  have b6:((x:Int)%16+1).toNat=x%16+1:=by omega
  have w1:IntKind.u8.wrap ((x:Int)/16+1)=(x:Int)/16+1:=by rw [IntKind.wrap_u8];omega
  have w2:IntKind.u8.wrap ((x:Int)%16+1)=(x:Int)%16+1:=by rw [IntKind.wrap_u8];omega
  simp
  refine A10 (fs hi1 (fs hg3 (fs hib (fs hib2 (fs hds (fs b2 (fs b3 (fs b5 (fs b4 (fs b6 (fs w1 w2))))))))))) ?_;try with_reducible exact tt
  refine ⟨i+1,by omega,by omega,?_,Sub1.refl _⟩
  rw [g1,g2,o_gi,o_gi,hsn,List.append_assoc]
  exact Sub1.refl _
 ·have hi1:¬(i:Int)<b.length:=by omega
  have hi0:i=b.length:=by omega
  rw [show b.take i=b by rw [hi0];exact List.take_length]
  simp
  refine A10 hi1 ?_;try with_reducible exact tt
end
section
open Go.RowKit
theorem o_u6 (n:Nat) (h:n<18446744073709551616):(bst (decN n)).size≤64:=o_jz (n:=n) (E:=64) h (by omega)
theorem o_u7 (v:Int) (h:inR v):(bst (itoaN v)).size≤65:=by
 unfold inR at h
 have:=o_u6 v.natAbs (by omega)
 unfold itoaN
 split
 ·show (((45::decN v.natAbs).map UInt8.ofNat).toArray).size≤65
  have h2:(bst (decN v.natAbs)).size=(decN v.natAbs).length:=by show ((decN v.natAbs).map UInt8.ofNat).toArray.size=_;simp
  simp
  omega
 ·omega
def o_u8:C:=(.seq (.reg false [⟨(some 1),.box 28 (.t 0),none,[]⟩,
 ⟨(some 2),.mv (.d (.str ⟨#[]⟩)),none,[]⟩,
 ⟨(some 3),.new 28 [(.int .i64 0),(.int .i64 0),(.int .i64 0),(.int .i64 0),(.int .i64 0),(.int .u64 0),.nilsl,.nilsl],none,[]⟩])
(.seq (.reg false [⟨(some 8),.fa 1 (.t 1),none,[]⟩,
 ⟨(some 9),.load false 1 (.t 8),none,[0]⟩,
 ⟨(some 10),.call 10 [(.t 9)],none,[1]⟩,
 ⟨(some 11),.bin .add (.d (.str ⟨#[32]⟩)) (.t 10),none,[2]⟩,
 ⟨(some 4),.mv (.t 11),none,[3,2,0,1,2,3]⟩])
(.seq (.seq (.reg false [⟨(some 12),.fa 0 (.t 1),none,[]⟩,
 ⟨(some 13),.load false 1 (.t 12),none,[0]⟩])
(.block 0 (.seq (.reg false [⟨(some 15),.bin .eql (.t 13) (.d (.int .i64 1)),none,[]⟩,
 ⟨(some 14),.mv (.t 15),none,[0]⟩])
(.cond (.t 14)
(.seq (.seq (.reg false [⟨(some 16),.fa 6 (.t 1),none,[]⟩,
   ⟨(some 17),.load false 1 (.t 16),none,[0]⟩,
   ⟨(some 18),.len (.t 17),none,[1]⟩,
   ⟨(some 19),.bin .eql (.t 18) (.d (.int .i64 0)),none,[2]⟩])
(.cond (.t 19)
 (.seq (.reg false [⟨(some 20),.build [(.int .i64 0),(.int .i64 0),(.int .i64 0),(.int .i64 0),(.int .i64 0),(.int .u64 0),.nilsl,.nilsl] [],none,[]⟩,
  ⟨(some 2),.mv (.d (.str ⟨#[]⟩)),none,[]⟩,
  ⟨none,.store 8 (.t 3) (.t 20),none,[0,1,0,1]⟩])
 .ret)
 .skip))
(.seq (.reg false [⟨(some 5),.mv (.d (.str ⟨#[110,101,119]⟩)),none,[]⟩])
(.seq (.seq (.reg false [⟨(some 21),.fa 6 (.t 1),none,[]⟩,
   ⟨(some 22),.load false 1 (.t 21),none,[0]⟩,
   ⟨(some 23),.len (.t 22),none,[1]⟩,
   ⟨(some 24),.mv (.d (.int .i64 0)),none,[]⟩])
(.block 1 (.loop (.seq (.reg false [⟨(some 25),.bin .lss (.t 24) (.t 23),none,[]⟩])
(.seq (.cond (.t 25)
 .skip
 (.exit 1))
(.seq (.block 2 (.seq (.reg false [⟨(some 26),.ix 1 (.t 22) (.t 24),none,[]⟩,
   ⟨(some 27),.load false 1 (.t 26),none,[0]⟩,
   ⟨(some 7),.mv (.t 27),none,[1,0,1]⟩])
(.reg false [⟨(some 28),.mv (.t 5),none,[]⟩,
   ⟨(some 29),.mv (.t 7),none,[]⟩,
   ⟨(some 30),.call 10 [(.t 29)],none,[1]⟩,
   ⟨(some 31),.bin .add (.d (.str ⟨#[32]⟩)) (.t 30),none,[2]⟩,
   ⟨(some 32),.bin .add (.t 28) (.t 31),none,[0,3]⟩,
   ⟨(some 5),.mv (.t 32),none,[4,2,0,1,2,3,4]⟩])))
(.reg false [⟨(some 33),.bin .add (.t 24) (.d (.int .i64 1)),none,[]⟩,
   ⟨(some 24),.mv (.t 33),none,[0]⟩])))))))
(.seq (.reg true [⟨(some 34),.mv (.t 5),none,[]⟩,
   ⟨(some 35),.fa 0 (.t 1),none,[]⟩,
   ⟨(some 36),.load false 1 (.t 35),none,[1]⟩,
   ⟨(some 37),.fa 6 (.t 1),none,[]⟩,
   ⟨(some 38),.load false 1 (.t 37),none,[3]⟩,
   ⟨(some 39),.build [(.int .i64 0),(.int .i64 0),(.int .i64 0),(.int .i64 0),(.int .i64 0),(.int .u64 0),.nilsl,.nilsl] [(0,1,(.t 36)),(6,1,(.t 38))],none,[2,4]⟩,
   ⟨(some 2),.mv (.t 34),none,[0,0]⟩,
   ⟨none,.store 8 (.t 3) (.t 39),none,[5,6,0,1,2,3,4,5,6]⟩])
.ret))))
(.seq (.reg false [⟨(some 41),.bin .eql (.t 13) (.d (.int .i64 2)),none,[]⟩,
   ⟨(some 40),.mv (.t 41),none,[0]⟩])
(.cond (.t 40)
 (.seq (.reg true [⟨(some 42),.mv (.t 4),none,[]⟩,
  ⟨(some 43),.bin .add (.d (.str ⟨#[97,100,100]⟩)) (.t 42),none,[0]⟩,
  ⟨(some 44),.bin .add (.t 43) (.d (.str ⟨#[32]⟩)),none,[1]⟩,
  ⟨(some 45),.fa 3 (.t 1),none,[]⟩,
  ⟨(some 46),.load false 1 (.t 45),none,[3]⟩,
  ⟨(some 47),.call 10 [(.t 46)],none,[4]⟩,
  ⟨(some 48),.bin .add (.t 44) (.t 47),none,[2,5]⟩,
  ⟨(some 49),.bin .add (.t 48) (.d (.str ⟨#[32]⟩)),none,[6]⟩,
  ⟨(some 50),.fa 4 (.t 1),none,[]⟩,
  ⟨(some 51),.load false 1 (.t 50),none,[8]⟩,
  ⟨(some 52),.call 10 [(.t 51)],none,[9,5]⟩,
  ⟨(some 53),.bin .add (.t 49) (.t 52),none,[7,10]⟩,
  ⟨(some 54),.fa 0 (.t 1),none,[]⟩,
  ⟨(some 55),.load false 1 (.t 54),none,[12]⟩,
  ⟨(some 56),.fa 1 (.t 1),none,[]⟩,
  ⟨(some 57),.load false 1 (.t 56),none,[14]⟩,
  ⟨(some 58),.fa 3 (.t 1),none,[]⟩,
  ⟨(some 59),.load false 1 (.t 58),none,[16]⟩,
  ⟨(some 60),.fa 4 (.t 1),none,[]⟩,
  ⟨(some 61),.load false 1 (.t 60),none,[18]⟩,
  ⟨(some 62),.build [(.int .i64 0),(.int .i64 0),(.int .i64 0),(.int .i64 0),(.int .i64 0),(.int .u64 0),.nilsl,.nilsl] [(0,1,(.t 55)),(1,1,(.t 57)),(3,1,(.t 59)),(4,1,(.t 61))],none,[13,15,17,19]⟩,
  ⟨(some 2),.mv (.t 53),none,[11,10,0,1,2,3,4,5,6,7,8,9,10,11]⟩,
  ⟨none,.store 8 (.t 3) (.t 62),none,[20,21,0,1,2,3,4,5,6,7,8,9,10,11,12,13,14,15,16,17,18,19,20,21]⟩])
 .ret)
 (.seq (.reg false [⟨(some 64),.bin .eql (.t 13) (.d (.int .i64 3)),none,[]⟩,
  ⟨(some 63),.mv (.t 64),none,[0]⟩])
 (.cond (.t 63)
   (.seq (.reg true [⟨(some 65),.mv (.t 4),none,[]⟩,
    ⟨(some 66),.bin .add (.d (.str ⟨#[117,112,100,97,116,101]⟩)) (.t 65),none,[0]⟩,
    ⟨(some 67),.bin .add (.t 66) (.d (.str ⟨#[32]⟩)),none,[1]⟩,
    ⟨(some 68),.fa 5 (.t 1),none,[]⟩,
    ⟨(some 69),.load false 1 (.t 68),none,[3]⟩,
    ⟨(some 70),.call 29 [(.t 69)],none,[4]⟩,
    ⟨(some 71),.bin .add (.t 67) (.t 70),none,[2,5]⟩,
    ⟨(some 72),.bin .add (.t 71) (.d (.str ⟨#[32]⟩)),none,[6]⟩,
    ⟨(some 73),.fa 4 (.t 1),none,[]⟩,
    ⟨(some 74),.load false 1 (.t 73),none,[8]⟩,
    ⟨(some 75),.call 10 [(.t 74)],none,[9,5]⟩,
    ⟨(some 76),.bin .add (.t 72) (.t 75),none,[7,10]⟩,
    ⟨(some 77),.fa 0 (.t 1),none,[]⟩,
    ⟨(some 78),.load false 1 (.t 77),none,[12]⟩,
    ⟨(some 79),.fa 1 (.t 1),none,[]⟩,
    ⟨(some 80),.load false 1 (.t 79),none,[14]⟩,
    ⟨(some 81),.fa 5 (.t 1),none,[]⟩,
    ⟨(some 82),.load false 1 (.t 81),none,[16]⟩,
    ⟨(some 83),.fa 4 (.t 1),none,[]⟩,
    ⟨(some 84),.load false 1 (.t 83),none,[18]⟩,
    ⟨(some 85),.build [(.int .i64 0),(.int .i64 0),(.int .i64 0),(.int .i64 0),(.int .i64 0),(.int .u64 0),.nilsl,.nilsl] [(0,1,(.t 78)),(1,1,(.t 80)),(5,1,(.t 82)),(4,1,(.t 84))],none,[13,15,17,19]⟩,
    ⟨(some 2),.mv (.t 76),none,[11,10,0,1,2,3,4,5,6,7,8,9,10,11]⟩,
    ⟨none,.store 8 (.t 3) (.t 85),none,[20,21,0,1,2,3,4,5,6,7,8,9,10,11,12,13,14,15,16,17,18,19,20,21]⟩])
   .ret)
   (.seq (.reg false [⟨(some 87),.bin .eql (.t 13) (.d (.int .i64 4)),none,[]⟩,
    ⟨(some 86),.mv (.t 87),none,[0]⟩])
   (.cond (.t 86)
  (.seq (.reg true [⟨(some 88),.mv (.t 4),none,[]⟩,
   ⟨(some 89),.bin .add (.d (.str ⟨#[113,117,101,114,121]⟩)) (.t 88),none,[0]⟩,
   ⟨(some 90),.bin .add (.t 89) (.d (.str ⟨#[32]⟩)),none,[1]⟩,
   ⟨(some 91),.fa 3 (.t 1),none,[]⟩,
   ⟨(some 92),.load false 1 (.t 91),none,[3]⟩,
   ⟨(some 93),.call 10 [(.t 92)],none,[4]⟩,
   ⟨(some 94),.bin .add (.t 90) (.t 93),none,[2,5]⟩,
   ⟨(some 95),.bin .add (.t 94) (.d (.str ⟨#[32]⟩)),none,[6]⟩,
   ⟨(some 96),.fa 5 (.t 1),none,[]⟩,
   ⟨(some 97),.load false 1 (.t 96),none,[8]⟩,
   ⟨(some 98),.call 29 [(.t 97)],none,[9,5]⟩,
   ⟨(some 99),.bin .add (.t 95) (.t 98),none,[7,10]⟩,
   ⟨(some 100),.bin .add (.t 99) (.d (.str ⟨#[32]⟩)),none,[11]⟩,
   ⟨(some 101),.fa 4 (.t 1),none,[]⟩,
   ⟨(some 102),.load false 1 (.t 101),none,[13]⟩,
   ⟨(some 103),.call 10 [(.t 102)],none,[14,10]⟩,
   ⟨(some 104),.bin .add (.t 100) (.t 103),none,[12,15]⟩,
   ⟨(some 105),.fa 0 (.t 1),none,[]⟩,
   ⟨(some 106),.load false 1 (.t 105),none,[17]⟩,
   ⟨(some 107),.fa 1 (.t 1),none,[]⟩,
   ⟨(some 108),.load false 1 (.t 107),none,[19]⟩,
   ⟨(some 109),.fa 3 (.t 1),none,[]⟩,
   ⟨(some 110),.load false 1 (.t 109),none,[21]⟩,
   ⟨(some 111),.fa 5 (.t 1),none,[]⟩,
   ⟨(some 112),.load false 1 (.t 111),none,[23]⟩,
   ⟨(some 113),.fa 4 (.t 1),none,[]⟩,
   ⟨(some 114),.load false 1 (.t 113),none,[25]⟩,
   ⟨(some 115),.build [(.int .i64 0),(.int .i64 0),(.int .i64 0),(.int .i64 0),(.int .i64 0),(.int .u64 0),.nilsl,.nilsl] [(0,1,(.t 106)),(1,1,(.t 108)),(3,1,(.t 110)),(5,1,(.t 112)),(4,1,(.t 114))],none,[18,20,22,24,26]⟩,
   ⟨(some 2),.mv (.t 104),none,[16,15,0,1,2,3,4,5,6,7,8,9,10,11,12,13,14,15,16]⟩,
   ⟨none,.store 8 (.t 3) (.t 115),none,[27,28,0,1,2,3,4,5,6,7,8,9,10,11,12,13,14,15,16,17,18,19,20,21,22,23,24,25,26,27,28]⟩])
  .ret)
  (.seq (.reg false [⟨(some 117),.bin .eql (.t 13) (.d (.int .i64 5)),none,[]⟩,
   ⟨(some 116),.mv (.t 117),none,[0]⟩])
  (.cond (.t 116)
    (.seq (.reg true [⟨(some 118),.mv (.t 4),none,[]⟩,
     ⟨(some 119),.bin .add (.d (.str ⟨#[109,101,114,103,101]⟩)) (.t 118),none,[0]⟩,
     ⟨(some 120),.bin .add (.t 119) (.d (.str ⟨#[32]⟩)),none,[1]⟩,
     ⟨(some 121),.fa 2 (.t 1),none,[]⟩,
     ⟨(some 122),.load false 1 (.t 121),none,[3]⟩,
     ⟨(some 123),.call 10 [(.t 122)],none,[4]⟩,
     ⟨(some 124),.bin .add (.t 120) (.t 123),none,[2,5]⟩,
     ⟨(some 125),.fa 0 (.t 1),none,[]⟩,
     ⟨(some 126),.load false 1 (.t 125),none,[7]⟩,
     ⟨(some 127),.fa 1 (.t 1),none,[]⟩,
     ⟨(some 128),.load false 1 (.t 127),none,[9]⟩,
     ⟨(some 129),.fa 2 (.t 1),none,[]⟩,
     ⟨(some 130),.load false 1 (.t 129),none,[11]⟩,
     ⟨(some 131),.build [(.int .i64 0),(.int .i64 0),(.int .i64 0),(.int .i64 0),(.int .i64 0),(.int .u64 0),.nilsl,.nilsl] [(0,1,(.t 126)),(1,1,(.t 128)),(2,1,(.t 130))],none,[8,10,12]⟩,
     ⟨(some 2),.mv (.t 124),none,[6,5,0,1,2,3,4,5,6]⟩,
     ⟨none,.store 8 (.t 3) (.t 131),none,[13,14,0,1,2,3,4,5,6,7,8,9,10,11,12,13,14]⟩])
    .ret)
    (.seq (.reg false [⟨(some 133),.bin .eql (.t 13) (.d (.int .i64 6)),none,[]⟩,
     ⟨(some 132),.mv (.t 133),none,[0]⟩])
    (.cond (.t 132)
   (.seq (.reg true [⟨(some 134),.mv (.t 4),none,[]⟩,
    ⟨(some 135),.bin .add (.d (.str ⟨#[97,110,97,108,121,115,101]⟩)) (.t 134),none,[0]⟩,
    ⟨(some 136),.bin .add (.t 135) (.d (.str ⟨#[32]⟩)),none,[1]⟩,
    ⟨(some 137),.fa 4 (.t 1),none,[]⟩,
    ⟨(some 138),.load false 1 (.t 137),none,[3]⟩,
    ⟨(some 139),.call 10 [(.t 138)],none,[4]⟩,
    ⟨(some 140),.bin .add (.t 136) (.t 139),none,[2,5]⟩,
    ⟨(some 141),.bin .add (.t 140) (.d (.str ⟨#[32]⟩)),none,[6]⟩,
    ⟨(some 142),.fa 3 (.t 1),none,[]⟩,
    ⟨(some 143),.load false 1 (.t 142),none,[8]⟩,
    ⟨(some 144),.call 10 [(.t 143)],none,[9,5]⟩,
    ⟨(some 145),.bin .add (.t 141) (.t 144),none,[7,10]⟩,
    ⟨(some 146),.fa 0 (.t 1),none,[]⟩,
    ⟨(some 147),.load false 1 (.t 146),none,[12]⟩,
    ⟨(some 148),.fa 1 (.t 1),none,[]⟩,
    ⟨(some 149),.load false 1 (.t 148),none,[14]⟩,
    ⟨(some 150),.fa 4 (.t 1),none,[]⟩,
    ⟨(some 151),.load false 1 (.t 150),none,[16]⟩,
    ⟨(some 152),.fa 3 (.t 1),none,[]⟩,
    ⟨(some 153),.load false 1 (.t 152),none,[18]⟩,
    ⟨(some 154),.build [(.int .i64 0),(.int .i64 0),(.int .i64 0),(.int .i64 0),(.int .i64 0),(.int .u64 0),.nilsl,.nilsl] [(0,1,(.t 147)),(1,1,(.t 149)),(4,1,(.t 151)),(3,1,(.t 153))],none,[13,15,17,19]⟩,
    ⟨(some 2),.mv (.t 145),none,[11,10,0,1,2,3,4,5,6,7,8,9,10,11]⟩,
    ⟨none,.store 8 (.t 3) (.t 154),none,[20,21,0,1,2,3,4,5,6,7,8,9,10,11,12,13,14,15,16,17,18,19,20,21]⟩])
   .ret)
   (.seq (.reg false [⟨(some 156),.bin .eql (.t 13) (.d (.int .i64 7)),none,[]⟩,
    ⟨(some 155),.mv (.t 156),none,[0]⟩])
   (.cond (.t 155)
     (.seq (.reg true [⟨(some 157),.mv (.t 4),none,[]⟩,
      ⟨(some 158),.bin .add (.d (.str ⟨#[101,110,99,111,100,101]⟩)) (.t 157),none,[0]⟩,
      ⟨(some 159),.fa 0 (.t 1),none,[]⟩,
      ⟨(some 160),.load false 1 (.t 159),none,[2]⟩,
      ⟨(some 161),.fa 1 (.t 1),none,[]⟩,
      ⟨(some 162),.load false 1 (.t 161),none,[4]⟩,
      ⟨(some 163),.build [(.int .i64 0),(.int .i64 0),(.int .i64 0),(.int .i64 0),(.int .i64 0),(.int .u64 0),.nilsl,.nilsl] [(0,1,(.t 160)),(1,1,(.t 162))],none,[3,5]⟩,
      ⟨(some 2),.mv (.t 158),none,[1,0,1]⟩,
      ⟨none,.store 8 (.t 3) (.t 163),none,[6,7,0,1,2,3,4,5,6,7]⟩])
     .ret)
     (.seq (.reg false [⟨(some 165),.bin .eql (.t 13) (.d (.int .i64 8)),none,[]⟩,
      ⟨(some 164),.mv (.t 165),none,[0]⟩])
     (.cond (.t 164)
    (.seq (.reg true [⟨(some 166),.fa 7 (.t 1),none,[]⟩,
     ⟨(some 167),.load false 1 (.t 166),none,[0]⟩,
     ⟨(some 168),.call 30 [(.t 167)],none,[1]⟩,
     ⟨(some 169),.bin .add (.d (.str ⟨#[100,101,99,111,100,101,32]⟩)) (.t 168),none,[2]⟩,
     ⟨(some 170),.fa 0 (.t 1),none,[]⟩,
     ⟨(some 171),.load false 1 (.t 170),none,[4]⟩,
     ⟨(some 172),.fa 7 (.t 1),none,[]⟩,
     ⟨(some 173),.load false 1 (.t 172),none,[6]⟩,
     ⟨(some 174),.build [(.int .i64 0),(.int .i64 0),(.int .i64 0),(.int .i64 0),(.int .i64 0),(.int .u64 0),.nilsl,.nilsl] [(0,1,(.t 171)),(7,1,(.t 173))],none,[5,7]⟩,
     ⟨(some 2),.mv (.t 169),none,[3,2,0,1,2,3]⟩,
     ⟨none,.store 8 (.t 3) (.t 174),none,[8,9,0,1,2,3,4,5,6,7,8,9]⟩])
    .ret)
    (.seq (.reg false [⟨(some 176),.bin .eql (.t 13) (.d (.int .i64 9)),none,[]⟩,
     ⟨(some 175),.mv (.t 176),none,[0]⟩])
    (.cond (.t 175)
      (.seq (.reg true [⟨(some 177),.mv (.t 4),none,[]⟩,
       ⟨(some 178),.bin .add (.d (.str ⟨#[100,114,111,112]⟩)) (.t 177),none,[0]⟩,
       ⟨(some 179),.fa 0 (.t 1),none,[]⟩,
       ⟨(some 180),.load false 1 (.t 179),none,[2]⟩,
       ⟨(some 181),.fa 1 (.t 1),none,[]⟩,
       ⟨(some 182),.load false 1 (.t 181),none,[4]⟩,
       ⟨(some 183),.build [(.int .i64 0),(.int .i64 0),(.int .i64 0),(.int .i64 0),(.int .i64 0),(.int .u64 0),.nilsl,.nilsl] [(0,1,(.t 180)),(1,1,(.t 182))],none,[3,5]⟩,
       ⟨(some 2),.mv (.t 178),none,[1,0,1]⟩,
       ⟨none,.store 8 (.t 3) (.t 183),none,[6,7,0,1,2,3,4,5,6,7]⟩])
      .ret)
      .skip))))))))))))))))))))
(.seq (.reg false [⟨(some 184),.build [(.int .i64 0),(.int .i64 0),(.int .i64 0),(.int .i64 0),(.int .i64 0),(.int .u64 0),.nilsl,.nilsl] [],none,[]⟩,
 ⟨(some 2),.mv (.d (.str ⟨#[]⟩)),none,[]⟩,
 ⟨none,.store 8 (.t 3) (.t 184),none,[0,1,0,1]⟩])
.ret))))
theorem o_u9:o_d6=o_u8:=by kernel_rfl
theorem tx_2 (h o i n:Int) (key:Nat) (N B:D) (h_h:inR h) (h_i:inR i) (h_n:inR n):Eqn Tryz.prog o_d5 [.d (.agg [.int .i64 2,.int .i64 h,.int .i64 o,.int .i64 i,.int .i64 n,.int .u64 key,N,B])] [] (.tup [.d (.str (bst (joinN 32 [[97,100,100],itoaN h,itoaN i,itoaN n]))),.d (.agg [.int .i64 2,.int .i64 h,.int .i64 0,.int .i64 i,.int .i64 n,.int .u64 0,.nilsl,.nilsl])]) []:=by
 refine Eqn.pure o_d7 (o_fm _ _) ?_
 have hW:(⟨#[97,100,100]⟩:ByteArray)=bst [97,100,100]:=rfl
 have hS:(⟨#[32]⟩:ByteArray)=bst [32]:=rfl
 obtain ⟨S,hSd⟩:∃S,S=bst [32]:=⟨_,rfl⟩
 obtain ⟨W,hWd⟩:∃W,W=bst [97,100,100]:=⟨_,rfl⟩
 have hSs:S.size=1:=by rw [hSd];rfl
 have hWs:W.size=3:=by rw [hWd];rfl
 have hr:bst (joinN 32 [[97,100,100],itoaN h,itoaN i,itoaN n])=((W++(S++bst (itoaN h))++S)++bst (itoaN i)++S)++bst (itoaN n):=by
  rw [hSd,hWd];simp only [o_gi,joinN]<;>(congr 1<;>simp)
 rw [hr]
 have c_h:=o_ts h h_h
 have s_h:=o_u7 h h_h
 have c_i:=o_ts i h_i
 have s_i:=o_u7 i h_i
 have c_n:=o_ts n h_n
 have s_n:=o_u7 n h_n
 simp only [o_u9,o_u8]
 simp only [hS,hW,←hSd,←hWd]
 generalize bst (itoaN h)=x_h at *
 generalize bst (itoaN i)=x_i at *
 generalize bst (itoaN n)=x_n at *
 clear hr
 refine A03 c_h c_i c_n ?_;try with_reducible exact tt
theorem tx_3 (h o i n:Int) (key:Nat) (N B:D) (h_h:inR h) (h_key:key<18446744073709551616) (h_n:inR n):Eqn Tryz.prog o_d5 [.d (.agg [.int .i64 3,.int .i64 h,.int .i64 o,.int .i64 i,.int .i64 n,.int .u64 key,N,B])] [] (.tup [.d (.str (bst (joinN 32 [[117,112,100,97,116,101],itoaN h,decN key,itoaN n]))),.d (.agg [.int .i64 3,.int .i64 h,.int .i64 0,.int .i64 0,.int .i64 n,.int .u64 key,.nilsl,.nilsl])]) []:=by
 refine Eqn.pure o_d7 (o_fm _ _) ?_
 have hW:(⟨#[117,112,100,97,116,101]⟩:ByteArray)=bst [117,112,100,97,116,101]:=rfl
 have hS:(⟨#[32]⟩:ByteArray)=bst [32]:=rfl
 obtain ⟨S,hSd⟩:∃S,S=bst [32]:=⟨_,rfl⟩
 obtain ⟨W,hWd⟩:∃W,W=bst [117,112,100,97,116,101]:=⟨_,rfl⟩
 have hSs:S.size=1:=by rw [hSd];rfl
 have hWs:W.size=6:=by rw [hWd];rfl
 have hr:bst (joinN 32 [[117,112,100,97,116,101],itoaN h,decN key,itoaN n])=((W++(S++bst (itoaN h))++S)++bst (decN key)++S)++bst (itoaN n):=by
  rw [hSd,hWd];simp only [o_gi,joinN]<;>(congr 1<;>simp)
 rw [hr]
 have c_h:=o_ts h h_h
 have s_h:=o_u7 h h_h
 have c_key:=o_tt key h_key
 have s_key:=o_u6 key h_key
 have c_n:=o_ts n h_n
 have s_n:=o_u7 n h_n
 simp only [o_u9,o_u8]
 simp only [hS,hW,←hSd,←hWd]
 generalize bst (itoaN h)=x_h at *
 generalize bst (decN key)=x_key at *
 generalize bst (itoaN n)=x_n at *
 clear hr
 refine A03 c_h c_key c_n ?_;try with_reducible exact tt
theorem tx_4 (h o i n:Int) (key:Nat) (N B:D) (h_h:inR h) (h_i:inR i) (h_key:key<18446744073709551616) (h_n:inR n):Eqn Tryz.prog o_d5 [.d (.agg [.int .i64 4,.int .i64 h,.int .i64 o,.int .i64 i,.int .i64 n,.int .u64 key,N,B])] [] (.tup [.d (.str (bst (joinN 32 [[113,117,101,114,121],itoaN h,itoaN i,decN key,itoaN n]))),.d (.agg [.int .i64 4,.int .i64 h,.int .i64 0,.int .i64 i,.int .i64 n,.int .u64 key,.nilsl,.nilsl])]) []:=by
 refine Eqn.pure o_d7 (o_fm _ _) ?_
 have hW:(⟨#[113,117,101,114,121]⟩:ByteArray)=bst [113,117,101,114,121]:=rfl
 have hS:(⟨#[32]⟩:ByteArray)=bst [32]:=rfl
 obtain ⟨S,hSd⟩:∃S,S=bst [32]:=⟨_,rfl⟩
 obtain ⟨W,hWd⟩:∃W,W=bst [113,117,101,114,121]:=⟨_,rfl⟩
 have hSs:S.size=1:=by rw [hSd];rfl
 have hWs:W.size=5:=by rw [hWd];rfl
 have hr:bst (joinN 32 [[113,117,101,114,121],itoaN h,itoaN i,decN key,itoaN n])=(((W++(S++bst (itoaN h))++S)++bst (itoaN i)++S)++bst (decN key)++S)++bst (itoaN n):=by
  rw [hSd,hWd];simp only [o_gi,joinN]<;>(congr 1<;>simp)
 rw [hr]
 have c_h:=o_ts h h_h
 have s_h:=o_u7 h h_h
 have c_i:=o_ts i h_i
 have s_i:=o_u7 i h_i
 have c_key:=o_tt key h_key
 have s_key:=o_u6 key h_key
 have c_n:=o_ts n h_n
 have s_n:=o_u7 n h_n
 simp only [o_u9,o_u8]
 simp only [hS,hW,←hSd,←hWd]
 generalize bst (itoaN h)=x_h at *
 generalize bst (itoaN i)=x_i at *
 generalize bst (decN key)=x_key at *
 generalize bst (itoaN n)=x_n at *
 clear hr
 refine A04 c_h c_i c_key c_n ?_;try with_reducible exact tt
theorem tx_5 (h o i n:Int) (key:Nat) (N B:D) (h_h:inR h) (h_o:inR o):Eqn Tryz.prog o_d5 [.d (.agg [.int .i64 5,.int .i64 h,.int .i64 o,.int .i64 i,.int .i64 n,.int .u64 key,N,B])] [] (.tup [.d (.str (bst (joinN 32 [[109,101,114,103,101],itoaN h,itoaN o]))),.d (.agg [.int .i64 5,.int .i64 h,.int .i64 o,.int .i64 0,.int .i64 0,.int .u64 0,.nilsl,.nilsl])]) []:=by
 refine Eqn.pure o_d7 (o_fm _ _) ?_
 have hW:(⟨#[109,101,114,103,101]⟩:ByteArray)=bst [109,101,114,103,101]:=rfl
 have hS:(⟨#[32]⟩:ByteArray)=bst [32]:=rfl
 obtain ⟨S,hSd⟩:∃S,S=bst [32]:=⟨_,rfl⟩
 obtain ⟨W,hWd⟩:∃W,W=bst [109,101,114,103,101]:=⟨_,rfl⟩
 have hSs:S.size=1:=by rw [hSd];rfl
 have hWs:W.size=5:=by rw [hWd];rfl
 have hr:bst (joinN 32 [[109,101,114,103,101],itoaN h,itoaN o])=(W++(S++bst (itoaN h))++S)++bst (itoaN o):=by
  rw [hSd,hWd];simp only [o_gi,joinN]<;>(congr 1<;>simp)
 rw [hr]
 have c_h:=o_ts h h_h
 have s_h:=o_u7 h h_h
 have c_o:=o_ts o h_o
 have s_o:=o_u7 o h_o
 simp only [o_u9,o_u8]
 simp only [hS,hW,←hSd,←hWd]
 generalize bst (itoaN h)=x_h at *
 generalize bst (itoaN o)=x_o at *
 clear hr
 refine A02 c_h c_o ?_;try with_reducible exact tt
theorem tx_6 (h o i n:Int) (key:Nat) (N B:D) (h_h:inR h) (h_n:inR n) (h_i:inR i):Eqn Tryz.prog o_d5 [.d (.agg [.int .i64 6,.int .i64 h,.int .i64 o,.int .i64 i,.int .i64 n,.int .u64 key,N,B])] [] (.tup [.d (.str (bst (joinN 32 [[97,110,97,108,121,115,101],itoaN h,itoaN n,itoaN i]))),.d (.agg [.int .i64 6,.int .i64 h,.int .i64 0,.int .i64 i,.int .i64 n,.int .u64 0,.nilsl,.nilsl])]) []:=by
 refine Eqn.pure o_d7 (o_fm _ _) ?_
 have hW:(⟨#[97,110,97,108,121,115,101]⟩:ByteArray)=bst [97,110,97,108,121,115,101]:=rfl
 have hS:(⟨#[32]⟩:ByteArray)=bst [32]:=rfl
 obtain ⟨S,hSd⟩:∃S,S=bst [32]:=⟨_,rfl⟩
 obtain ⟨W,hWd⟩:∃W,W=bst [97,110,97,108,121,115,101]:=⟨_,rfl⟩
 have hSs:S.size=1:=by rw [hSd];rfl
 have hWs:W.size=7:=by rw [hWd];rfl
 have hr:bst (joinN 32 [[97,110,97,108,121,115,101],itoaN h,itoaN n,itoaN i])=((W++(S++bst (itoaN h))++S)++bst (itoaN n)++S)++bst (itoaN i):=by
  rw [hSd,hWd];simp only [o_gi,joinN]<;>(congr 1<;>simp)
 rw [hr]
 have c_h:=o_ts h h_h
 have s_h:=o_u7 h h_h
 have c_n:=o_ts n h_n
 have s_n:=o_u7 n h_n
 have c_i:=o_ts i h_i
 have s_i:=o_u7 i h_i
 simp only [o_u9,o_u8]
 simp only [hS,hW,←hSd,←hWd]
 generalize bst (itoaN h)=x_h at *
 generalize bst (itoaN n)=x_n at *
 generalize bst (itoaN i)=x_i at *
 clear hr
 refine A03 c_h c_n c_i ?_;try with_reducible exact tt
theorem tx_7 (h o i n:Int) (key:Nat) (N B:D) (h_h:inR h):Eqn Tryz.prog o_d5 [.d (.agg [.int .i64 7,.int .i64 h,.int .i64 o,.int .i64 i,.int .i64 n,.int .u64 key,N,B])] [] (.tup [.d (.str (bst (joinN 32 [[101,110,99,111,100,101],itoaN h]))),.d (.agg [.int .i64 7,.int .i64 h,.int .i64 0,.int .i64 0,.int .i64 0,.int .u64 0,.nilsl,.nilsl])]) []:=by
 refine Eqn.pure o_d7 (o_fm _ _) ?_
 have hW:(⟨#[101,110,99,111,100,101]⟩:ByteArray)=bst [101,110,99,111,100,101]:=rfl
 have hS:(⟨#[32]⟩:ByteArray)=bst [32]:=rfl
 obtain ⟨S,hSd⟩:∃S,S=bst [32]:=⟨_,rfl⟩
 obtain ⟨W,hWd⟩:∃W,W=bst [101,110,99,111,100,101]:=⟨_,rfl⟩
 have hSs:S.size=1:=by rw [hSd];rfl
 have hWs:W.size=6:=by rw [hWd];rfl
 have hr:bst (joinN 32 [[101,110,99,111,100,101],itoaN h])=W++(S++bst (itoaN h)):=by
  rw [hSd,hWd];simp only [o_gi,joinN]<;>(congr 1<;>simp)
 rw [hr]
 have c_h:=o_ts h h_h
 have s_h:=o_u7 h h_h
 simp only [o_u9,o_u8]
 simp only [hS,hW,←hSd,←hWd]
 generalize bst (itoaN h)=x_h at *
 clear hr
 refine A01 c_h ?_;try with_reducible exact tt
theorem tx_9 (h o i n:Int) (key:Nat) (N B:D) (h_h:inR h):Eqn Tryz.prog o_d5 [.d (.agg [.int .i64 9,.int .i64 h,.int .i64 o,.int .i64 i,.int .i64 n,.int .u64 key,N,B])] [] (.tup [.d (.str (bst (joinN 32 [[100,114,111,112],itoaN h]))),.d (.agg [.int .i64 9,.int .i64 h,.int .i64 0,.int .i64 0,.int .i64 0,.int .u64 0,.nilsl,.nilsl])]) []:=by
 refine Eqn.pure o_d7 (o_fm _ _) ?_
 have hW:(⟨#[100,114,111,112]⟩:ByteArray)=bst [100,114,111,112]:=rfl
 have hS:(⟨#[32]⟩:ByteArray)=bst [32]:=rfl
 obtain ⟨S,hSd⟩:∃S,S=bst [32]:=⟨_,rfl⟩
 obtain ⟨W,hWd⟩:∃W,W=bst [100,114,111,112]:=⟨_,rfl⟩
 have hSs:S.size=1:=by rw [hSd];rfl
 have hWs:W.size=4:=by rw [hWd];rfl
 have hr:bst (joinN 32 [[100,114,111,112],itoaN h])=W++(S++bst (itoaN h)):=by
  rw [hSd,hWd];simp only [o_gi,joinN]<;>(congr 1<;>simp)
 rw [hr]
 have c_h:=o_ts h h_h
 have s_h:=o_u7 h h_h
 simp only [o_u9,o_u8]
 simp only [hS,hW,←hSd,←hWd]
 generalize bst (itoaN h)=x_h at *
 clear hr
 refine A01 c_h ?_;try with_reducible exact tt
theorem o_ua (l:List Int) (i:Nat) (hi:i<l.length):(intD l)[i]'(by simpa [intD] using hi) = .int .i64 l[i]:=by simp [intD]
theorem o_ub (h o i n:Int) (key:Nat) (N B:D) (hh:inR h) (hN:SlI N []):Eqn Tryz.prog o_d5 [.d (.agg [.int .i64 1,.int .i64 h,.int .i64 o,.int .i64 i,.int .i64 n,.int .u64 key,N,B])] [] (.tup [.d (.str (bst [])),.d (.agg [.int .i64 0,.int .i64 0,.int .i64 0,.int .i64 0,.int .i64 0,.int .u64 0,.nilsl,.nilsl])]) []:=by
 refine Eqn.pure o_d7 (o_fm _ _) ?_
 have c_h:=o_ts h hh
 have s_h:=o_u7 h hh
 have hn:bst []=⟨#[]⟩:=rfl
 simp only [o_u9,o_u8]
 rw [hn]
 have hS:(⟨#[32]⟩:ByteArray)=bst [32]:=rfl
 obtain ⟨S,hSd⟩:∃S,S=bst [32]:=⟨_,rfl⟩
 have hSs:S.size=1:=by rw [hSd];rfl
 simp only [hS,←hSd]
 generalize bst (itoaN h)=x_h at *
 rcases hN with rfl | ⟨_,rfl⟩
 ·refine A01 c_h ?_;try with_reducible exact tt
 ·refine A01 c_h ?_;try with_reducible exact tt
theorem o_uc (op h o i n:Int) (key:Nat) (N B:D) (hh:inR h) (ho:inR op) (hw:wordN op=[]):Eqn Tryz.prog o_d5 [.d (.agg [.int .i64 op,.int .i64 h,.int .i64 o,.int .i64 i,.int .i64 n,.int .u64 key,N,B])] [] (.tup [.d (.str (bst [])),.d (.agg [.int .i64 0,.int .i64 0,.int .i64 0,.int .i64 0,.int .i64 0,.int .u64 0,.nilsl,.nilsl])]) []:=by
 refine Eqn.pure o_d7 (o_fm _ _) ?_
 have c_h:=o_ts h hh
 have s_h:=o_u7 h hh
 have hn:bst []=⟨#[]⟩:=rfl
 simp only [o_u9,o_u8]
 rw [hn]
 have hS:(⟨#[32]⟩:ByteArray)=bst [32]:=rfl
 obtain ⟨S,hSd⟩:∃S,S=bst [32]:=⟨_,rfl⟩
 have hSs:S.size=1:=by rw [hSd];rfl
 simp only [hS,←hSd]
 generalize bst (itoaN h)=x_h at *
 have q:∀k:Nat,0<k→k<10→¬op=(k:Int):=by
  rintro k k0 k1 rfl
  have:∀k:Nat,k<10→0<k→wordN (k:Int)≠[]:=by decide
  exact this k k1 k0 hw
 have q1:=q 1 (by omega) (by omega)
 have q2:=q 2 (by omega) (by omega)
 have q3:=q 3 (by omega) (by omega)
 have q4:=q 4 (by omega) (by omega)
 have q5:=q 5 (by omega) (by omega)
 have q6:=q 6 (by omega) (by omega)
 have q7:=q 7 (by omega) (by omega)
 have q8:=q 8 (by omega) (by omega)
 have q9:=q 9 (by omega) (by omega)
 simp at q1 q2 q3 q4 q5 q6 q7 q8 q9
 refine A11 (fs q1 (fs q2 (fs q3 (fs q4 (fs q5 (fs q6 (fs q7 (fs q8 q9)))))))) c_h ?_;try with_reducible exact tt
theorem tx_8 (h o i n:Int) (key:Nat) (N B:D) (b:List Nat) (hh:inR h) (hB:SlB B b) (hb:∀x∈b,x<256) (hl:b.length≤1000000):Eqn Tryz.prog o_d5 [.d (.agg [.int .i64 8,.int .i64 h,.int .i64 o,.int .i64 i,.int .i64 n,.int .u64 key,N,B])] [] (.tup [.d (.str (bst (joinN 32 [[100,101,99,111,100,101],if b=[] then [45] else hexN b]))),.d (.agg [.int .i64 8,.int .i64 0,.int .i64 0,.int .i64 0,.int .i64 0,.int .u64 0,.nilsl,B])]) []:=by
 refine Eqn.pure o_d7 (o_fm _ _) ?_
 have c_h:=o_ts h hh
 have s_h:=o_u7 h hh
 have hx:Eqn Tryz.prog o_ct [.d B] [] (.d (.str (bst (if b=[] then [45] else hexN b)))) []:=by
  split
  ·rename_i e;subst e;exact o_u4 B hB
  ·rename_i e
   rw [hB.sl e]
   exact o_u5 b hb e (by omega)
 have hxs:(bst (if b=[] then [45] else hexN b)).size≤3000000:=by
  show ((if b=[] then [45] else hexN b).map UInt8.ofNat).toArray.size≤_
  split
  ·simp
  ·simp [o_s4];omega
 generalize (if b=[] then [45] else hexN b)=tx at *
 have hW:(⟨#[100,101,99,111,100,101,32]⟩:ByteArray)=bst [100,101,99,111,100,101,32]:=rfl
 have hS:(⟨#[32]⟩:ByteArray)=bst [32]:=rfl
 obtain ⟨S,hSd⟩:∃S,S=bst [32]:=⟨_,rfl⟩
 obtain ⟨W,hWd⟩:∃W,W=bst [100,101,99,111,100,101,32]:=⟨_,rfl⟩
 have hSs:S.size=1:=by rw [hSd];rfl
 have hWs:W.size=7:=by rw [hWd];rfl
 have hr:bst (joinN 32 [[100,101,99,111,100,101],tx])=W++bst tx:=by
  rw [hWd];simp only [o_gi,joinN];congr 1
 rw [hr]
 simp only [o_u9,o_u8]
 simp only [hS,hW,←hSd,←hWd]
 generalize bst (itoaN h)=x_h at *
 clear hr
 generalize bst tx=x at *
 clear hb hl
 rcases hB with rfl | ⟨_,rfl⟩
 ·generalize byD b=bd at *
  refine A02 c_h hx ?_;try with_reducible exact tt
 ·refine A02 c_h hx ?_;try with_reducible exact tt
end
section
open Go.RowKit
def flN (l:List Int):List Nat:=l.flatMap fun v=>32::itoaN v
theorem o_ud:∀(w:List Nat) (l:List Int),joinN 32 (w::l.map itoaN)=w++flN l
 | w,[]=>by simp [joinN,flN]
 | w,v::r=>by
  rw [List.map_cons,o_pn _ _ _ (by simp),o_ud]
  simp [flN]
theorem o_ue (l:List Int) (v:Int):flN (l++[v])=flN l++(32::itoaN v):=by simp [flN]
theorem o_uf (v:Int) (h:inR v):(itoaN v).length≤65:=by
 have:=o_u7 v h
 have h2:(bst (itoaN v)).size=(itoaN v).length:=by show ((itoaN v).map UInt8.ofNat).toArray.size=_;simp
 omega
theorem o_ug:∀l:List Int,(∀v∈l,inR v)→(flN l).length≤66*l.length
 | [],_=>by simp [flN]
 | v::r,h=>by
  have h1:=o_uf v (h v (by simp))
  have h2:=o_ug r fun x hx=>h x (by simp [hx])
  simp only [flN,List.flatMap_cons,List.length_append,List.length_cons] at h2 ⊢
  omega
theorem o_uh (l:List Nat):(bst l).size=l.length:=by show (l.map UInt8.ofNat).toArray.size=_;simp
set_option maxHeartbeats 4000000 in
theorem o_ui (h o i n:Int) (key:Nat) (B:D) (l:List Int) (hh:inR h) (h0:l≠[]) (hl:∀v∈l,inR v) (hn:l.length≤100000):Eqn Tryz.prog o_d5 [.d (.agg [.int .i64 1,.int .i64 h,.int .i64 o,.int .i64 i,.int .i64 n,.int .u64 key,.sl l.length (intD l),B])] [] (.tup [.d (.str (bst ([110,101,119]++flN l))),.d (.agg [.int .i64 1,.int .i64 0,.int .i64 0,.int .i64 0,.int .i64 0,.int .u64 0,.sl l.length (intD l),.nilsl])]) []:=by
 refine Eqn.pure o_d7 (o_fm _ _) ?_
 have c_h:=o_ts h hh
 have s_h:=o_u7 h hh
 have hW:(⟨#[110,101,119]⟩:ByteArray)=bst [110,101,119]:=rfl
 have hS:(⟨#[32]⟩:ByteArray)=bst [32]:=rfl
 obtain ⟨S,hSd⟩:∃S,S=bst [32]:=⟨_,rfl⟩
 obtain ⟨W,hWd⟩:∃W,W=bst [110,101,119]:=⟨_,rfl⟩
 have hSs:S.size=1:=by rw [hSd];rfl
 simp only [o_u9,o_u8]
 simp only [hS,hW,←hSd,←hWd]
 generalize bst (itoaN h)=x_h at *
 have hl0:0<l.length:=List.length_pos_iff.2 h0
 have hl1:¬l.length=0:=by omega
 refine A11 (fs hl1 h0) c_h ?_;try with_reducible exact tt
 refine AW.loopE (α:=Nat) (fun j=>setS (List.replicate 185 .junk) [(1,.p 0 0),(3,.p 1 0),(5,.d (.str (bst ([110,101,119]++flN (l.take j))))),(22,.d (.sl l.length (intD l))),(23,.d (.int .i64 l.length)),(24,.d (.int .i64 (j:Nat)))]) (fun j=>[some ⟨28,[.d (.int .i64 1),.d (.int .i64 h),.d (.int .i64 o),.d (.int .i64 i),.d (.int .i64 n),.d (.int .u64 key),.d (.sl l.length (intD l)),.d B]⟩,some ⟨28,[.d (.int .i64 0),.d (.int .i64 0),.d (.int .i64 0),.d (.int .i64 0),.d (.int .i64 0),.d (.int .u64 0),.d .nilsl,.d .nilsl]⟩]) (fun j=>j≤l.length) (fun j=>l.length-j) 0 ?_ (Nat.zero_le _) ?_ ?_ ?_
 ·intro j _;exact Nat.zero_le _
 ·simp [flN,hWd]
 ·simp
 rintro j hj
 by_cases hjl:j<l.length
 ·have hj1:(j:Int)<l.length:=by omega
  have hjl2:j<(intD l).length:=by simpa [intD] using hjl
  have hg:(intD l)[j]'hjl2 = .int .i64 l[j]:=o_ua l j hjl
  have hv:=hl _ (List.getElem_mem hjl)
  have hsn:=o_ue (l.take j) l[j]
  rw [←List.take_succ_eq_append_getElem hjl] at hsn
  have hfl:=o_ug (l.take j) fun v hv=>hl v (List.mem_of_mem_take hv)
  rw [List.length_take] at hfl
  obtain ⟨v,hve⟩:∃v,l[j]=v:=⟨_,rfl⟩
  rw [hve] at hg hv hsn
  have c_v:=o_ts v hv
  have s_v:=o_u7 v hv
  have hsz:(bst ([110,101,119]++flN (l.take j))).size≤10000000:=by
   rw [o_uh];simp;omega
  have ew:IntKind.i64.wrap ((j:Int)+1)=(j:Int)+1:=w64 (by omega) (by omega)
  have hr:bst ([110,101,119]++flN (l.take (j+1)))=bst ([110,101,119]++flN (l.take j))++(S++bst (itoaN v)):=by
   rw [hSd,hsn,o_gi,o_gi];simp
  generalize bst (itoaN v)=x at *
  generalize hac:bst ([110,101,119]++flN (l.take j))=ac at *
  simp
  refine A11 (fs hj1 (fs hg (fs hjl (fs hjl2 ew)))) c_v ?_;try with_reducible exact tt
  refine ⟨j+1,by omega,by omega,?_,Sub1.refl _⟩
  have hr2:bst (110::101::119::flN (l.take (j+1)))=ac++(S++x):=hr
  rw [hr2]
  exact Sub1.refl _
 ·have hj1:¬(j:Int)<l.length:=by omega
  have hj0:j=l.length:=by omega
  rw [show l.take j=l by rw [hj0];exact List.take_length]
  simp
  refine A10 hj1 ?_;try with_reducible exact tt
end
section
open Go.RowKit
def lineD (c:CmdM) (N B:D):D:=.agg (if textW c=[] then cmdD CmdM.zero .nilsl .nilsl else cmdD (plainM c) (if c.op=1 then N else .nilsl) (if c.op=8 then B else .nilsl))
theorem o_uj (c:CmdM) (h:wordN c.op=[]):textW c=[]:=by unfold textW;rw [if_pos h]
theorem o_uk (c:CmdM) (h:c.op=1):textW c=if c.nums=[] then [] else [110,101,119]::c.nums.map itoaN:=by unfold textW;rw [h];rfl
theorem o_ul (c:CmdM) (h:c.op=8):textW c=[[100,101,99,111,100,101],if c.bytes=[] then [45] else hexN c.bytes]:=by unfold textW;rw [h];rfl
theorem o_um (c:CmdM) (k:Nat) (h:c.op=k) (h1:k≠1) (h8:k≠8) (hw:wordN k≠[]):textW c=wordN k::(fldsN k).map (getF c):=by
 unfold textW
 rw [h,if_neg hw,if_neg (by omega),if_neg (by omega)];rfl
theorem o_un (c:CmdM) (N B:D) (h:textW c=[]):lineD c N B = .agg (cmdD CmdM.zero .nilsl .nilsl):=by unfold lineD;rw [if_pos h]
theorem o_uo (c:CmdM) (N B:D) (h:textW c≠[]):lineD c N B = .agg (cmdD (plainM c) (if c.op=1 then N else .nilsl) (if c.op=8 then B else .nilsl)):=by unfold lineD;rw [if_neg h]
theorem o_up (c:CmdM) (N B:D) (hc:c.Good) (hN:SlI N c.nums) (hB:SlB B c.bytes) (hn:c.nums.length≤100000) (hb:c.bytes.length≤1000000) :
  Eqn Tryz.prog o_d5 [.d (.agg (cmdD c N B))] [] (.tup [.d (.str (bst (textM c))),.d (lineD c N B)]) []:=by
 have t0:=o_uj c
 have t1:=o_uk c
 have t8:=o_ul c
 have tk:=o_um c
 have l0:=o_un c N B
 have l1:=o_uo c N B
 unfold textM
 have hwo:wordN c.op≠[]→_:=o_o6
 obtain ⟨op,h,o,i,n,key,nums,bytes⟩:=c
 have a1:=hc.op
 have a2:=hc.h
 have a3:=hc.o
 have a4:=hc.i
 have a5:=hc.n
 have a6:=hc.key
 have a7:=hc.nums
 have a8:=hc.bytes
 simp only at a1 a2 a3 a4 a5 a6 a7 a8 hN hB hn hb t0 t1 t8 tk l1 hwo
 by_cases hw:wordN op=[]
 ·rw [l0 (t0 hw),t0 hw]
  exact o_uc op h o i n key N B a2 a1 hw
 obtain ⟨k,rfl,k0,k1,hwk⟩:=hwo hw
 by_cases h1:k=1
 ·subst h1
  have e:=t1 rfl
  by_cases h0:nums=[]
  ·subst h0
   rw [if_pos rfl] at e
   rw [l0 e,e]
   exact o_ub h o i n key N B a2 hN
  ·rw [if_neg h0] at e
   rw [l1 (by rw [e];simp),e,o_ud,hN.sl h0]
   exact o_ui h o i n key B nums a2 h0 a7 hn
 by_cases h8:k=8
 ·subst h8
  have e:=t8 rfl
  rw [l1 (by rw [e];simp),e]
  exact tx_8 h o i n key N B bytes a2 hB a8 hb
 have e:=tk k rfl h1 h8 hw
 rw [l1 (by rw [e];simp),e,if_neg (by omega),if_neg (by omega)]
 have hks:k=2∨k=3∨k=4∨k=5∨k=6∨k=7∨k=9:=by omega
 rcases hks with rfl | rfl | rfl | rfl | rfl | rfl | rfl
 ·exact tx_2 h o i n key N B a2 a4 a5
 ·exact tx_3 h o i n key N B a2 a6 a5
 ·exact tx_4 h o i n key N B a2 a4 a6 a5
 ·exact tx_5 h o i n key N B a2 a3
 ·exact tx_6 h o i n key N B a2 a5 a4
 ·exact tx_7 h o i n key N B a2
 ·exact tx_9 h o i n key N B a2
theorem o_uq (l:List Nat) (i:Nat) (hi:i<l.length):∀h,(byD l)[i]'h = .int .u8 (l[i]:Nat):=fun h=>by simp [byD]
theorem o_ur (l:List Nat) (B1 B2:D) (h1:SlB B1 l) (h2:SlB B2 l) (hn:l.length≤4000000):Eqn Tryz.prog o_d8 [.d B1,.d B2] [] (.d (.bool true)) []:=by
 refine Eqn.pure o_da (o_6a _) ?_
 refine cc (c':=?z300) ?_ ?_
 case refine_1=>cbv<;>exact rfl
 by_cases h0:l=[]
 ·subst h0
  rcases h1 with rfl | ⟨_,rfl⟩<;>rcases h2 with rfl | ⟨_,rfl⟩
  all_goals
   refine A00 ?_;try with_reducible exact tt
   refine AW.rounds 2 (AWu.next ?_)
   refine A00 ?_;try with_reducible exact tt
 rw [h1.sl h0,h2.sl h0]
 refine A00 ?_;try with_reducible exact tt
 refine AW.loopT (α:=Nat) 0 (fun i=>[(5,.d (.int .i64 (i:Nat)))]) (fun i=>[]) (fun i=>i≤l.length) (fun i=>l.length-i) 0 ?_ ?_ (Nat.zero_le _) ?_ ?_ ?_
 ·simp
 ·simp
 ·simp
 ·simp
 intro i hi
 simp
 by_cases hiw:i<l.length
 ·have hiw':(i:Int)<l.length:=by omega
  have ew:IntKind.i64.wrap ((i:Int)+1)=((i+1:Nat):Int):=by rw [w64 (by omega) (by omega)];omega
  have hge:=o_uq l i hiw
  have hbl:(byD l).length=l.length:=by simp [byD]
  have hiw2:i<(byD l).length:=by omega
  generalize l[i]=x at *
  refine A10 (fs hiw (fs hiw' (fs hiw2 (fs ew hge)))) ?_;try with_reducible exact tt
  exact ⟨i+1,by omega,by omega,Sub1.int (by omega)⟩
 ·have:¬(i:Int)<l.length:=by omega
  refine A10 this ?_;try with_reducible exact tt
end
section
open Go.RowKit
theorem o_us {l:List Int} (h:l≠[]):numsD l = .sl l.length (intD l):=by unfold numsD;rw [if_neg h];rfl
theorem o_ut {l:List Nat} (h:l≠[]):bytesD l = .sl l.length (byD l):=by unfold bytesD;rw [if_neg h];rfl
theorem o_uu:numsD [] = .nilsl:=rfl
theorem o_uv (l:List Nat):SlB (bytesD l) l:=by
 by_cases h:l=[]
 ·subst h;exact .inr ⟨rfl,rfl⟩
 ·exact .inl (o_ut h)
theorem o_uw (l:List Int):SlI (numsD l) l:=by
 by_cases h:l=[]
 ·subst h;exact .inr ⟨rfl,rfl⟩
 ·exact .inl (o_us h)
set_option maxHeartbeats 4000000 in
theorem o_ux (c:CmdM) (B2:D) (h4:SlB B2 c.bytes) (hn:c.nums.length≤4000000) (hb:c.bytes.length≤4000000) :
  Eqn Tryz.prog o_d2 [.d (cmdA c),.d (.agg (cmdD c (numsD c.nums) B2))] [] (.d (.bool true)) []:=by
 refine Eqn.pure o_d4 (o_6a _) ?_
 have hs:=o_ur c.bytes (bytesD c.bytes) B2 (o_uv _) h4 hb
 obtain ⟨op,h,o,i,n,key,l,bytes⟩:=c
 refine cc (c':=?z301) ?_ ?_
 case refine_1=>cbv<;>exact rfl
 try simp only [cmdA,cmdD] at *
 have hB:((∃n l,bytesD bytes = .sl n l)∧∃n l,B2 = .sl n l)∨(bytesD bytes = .nilsl∧∃n l,B2 = .sl n l)∨(bytesD bytes = .nilsl∧B2 = .nilsl):=by
  by_cases hb0:bytes=[]
  ·subst hb0
   rcases h4 with h | ⟨_,h⟩
   ·exact .inr (.inl ⟨rfl,_,_,h⟩)
   ·exact .inr (.inr ⟨rfl,h⟩)
  ·exact .inl ⟨⟨_,_,o_ut hb0⟩,_,_,h4.sl hb0⟩
 clear h4
 generalize bytesD bytes=B1 at *
 by_cases h0:l=[]
 ·subst h0
  rw [o_uu]
  rcases hB with ⟨⟨n1,l1,rfl⟩,n2,l2,rfl⟩ | ⟨rfl,n2,l2,rfl⟩ | ⟨rfl,rfl⟩
  all_goals
   refine A00 ?_;try with_reducible exact tt
   refine AW.rounds 2 (AWu.next ?_)
   refine A01 hs ?_;try with_reducible exact tt
 rw [o_us h0]
 have hl0:¬l.length=0:=fun h=>h0 (List.length_eq_zero_iff.1 h)
 rcases hB with ⟨⟨n1,l1,rfl⟩,n2,l2,rfl⟩ | ⟨rfl,n2,l2,rfl⟩ | ⟨rfl,rfl⟩
 ·refine A00 ?_;try with_reducible exact tt
  refine AW.loopE (α:=Nat) (fun j=>setS (List.replicate 78 .junk) [(2,.p 0 0),(3,.p 1 0),(15,.d (.int .i64 l.length)),(16,.d (.int .i64 (j:Nat)))]) (fun j=>[some ⟨28,[.d (.int .i64 op),.d (.int .i64 h),.d (.int .i64 o),.d (.int .i64 i),.d (.int .i64 n),.d (.int .u64 key),.d (.sl l.length (intD l)),.d (.sl n1 l1)]⟩,some ⟨28,[.d (.int .i64 op),.d (.int .i64 h),.d (.int .i64 o),.d (.int .i64 i),.d (.int .i64 n),.d (.int .u64 key),.d (.sl l.length (intD l)),.d (.sl n2 l2)]⟩]) (fun j=>j≤l.length) (fun j=>l.length-j) 0 ?_ (Nat.zero_le _) ?_ ?_ ?_
  ·intro j _;exact Nat.zero_le _
  ·simp
  ·simp
  rintro j hj
  by_cases hiw:j<l.length
  ·have hiw':(j:Int)<l.length:=by omega
   have ew:IntKind.i64.wrap ((j:Int)+1)=((j+1:Nat):Int):=by rw [w64 (by omega) (by omega)];omega
   have hge:∀h,(intD l)[j]'h = .int .i64 l[j]:=fun h=>o_ua l j hiw
   have hbl:(intD l).length=l.length:=by simp [intD]
   have hiw2:j<(intD l).length:=by omega
   generalize l[j]=x at *
   simp
   refine A10 (fs hiw (fs hiw' (fs hiw2 (fs ew hge)))) ?_;try with_reducible exact tt
   exact ⟨j+1,by omega,by omega,Sub1.refl _⟩
  ·have hnn:¬(j:Int)<l.length:=by omega
   simp
   refine A11 hnn hs ?_;try with_reducible exact tt
 ·refine A00 ?_;try with_reducible exact tt
  refine AW.loopE (α:=Nat) (fun j=>setS (List.replicate 78 .junk) [(2,.p 0 0),(3,.p 1 0),(15,.d (.int .i64 l.length)),(16,.d (.int .i64 (j:Nat)))]) (fun j=>[some ⟨28,[.d (.int .i64 op),.d (.int .i64 h),.d (.int .i64 o),.d (.int .i64 i),.d (.int .i64 n),.d (.int .u64 key),.d (.sl l.length (intD l)),.d .nilsl]⟩,some ⟨28,[.d (.int .i64 op),.d (.int .i64 h),.d (.int .i64 o),.d (.int .i64 i),.d (.int .i64 n),.d (.int .u64 key),.d (.sl l.length (intD l)),.d (.sl n2 l2)]⟩]) (fun j=>j≤l.length) (fun j=>l.length-j) 0 ?_ (Nat.zero_le _) ?_ ?_ ?_
  ·intro j _;exact Nat.zero_le _
  ·simp
  ·simp
  rintro j hj
  by_cases hiw:j<l.length
  ·have hiw':(j:Int)<l.length:=by omega
   have ew:IntKind.i64.wrap ((j:Int)+1)=((j+1:Nat):Int):=by rw [w64 (by omega) (by omega)];omega
   have hge:∀h,(intD l)[j]'h = .int .i64 l[j]:=fun h=>o_ua l j hiw
   have hbl:(intD l).length=l.length:=by simp [intD]
   have hiw2:j<(intD l).length:=by omega
   generalize l[j]=x at *
   simp
   refine A10 (fs hiw (fs hiw' (fs hiw2 (fs ew hge)))) ?_;try with_reducible exact tt
   exact ⟨j+1,by omega,by omega,Sub1.refl _⟩
  ·have hnn:¬(j:Int)<l.length:=by omega
   simp
   refine A11 hnn hs ?_;try with_reducible exact tt
 ·refine A00 ?_;try with_reducible exact tt
  refine AW.loopE (α:=Nat) (fun j=>setS (List.replicate 78 .junk) [(2,.p 0 0),(3,.p 1 0),(15,.d (.int .i64 l.length)),(16,.d (.int .i64 (j:Nat)))]) (fun j=>[some ⟨28,[.d (.int .i64 op),.d (.int .i64 h),.d (.int .i64 o),.d (.int .i64 i),.d (.int .i64 n),.d (.int .u64 key),.d (.sl l.length (intD l)),.d .nilsl]⟩,some ⟨28,[.d (.int .i64 op),.d (.int .i64 h),.d (.int .i64 o),.d (.int .i64 i),.d (.int .i64 n),.d (.int .u64 key),.d (.sl l.length (intD l)),.d .nilsl]⟩]) (fun j=>j≤l.length) (fun j=>l.length-j) 0 ?_ (Nat.zero_le _) ?_ ?_ ?_
  ·intro j _;exact Nat.zero_le _
  ·simp
  ·simp
  rintro j hj
  by_cases hiw:j<l.length
  ·have hiw':(j:Int)<l.length:=by omega
   have ew:IntKind.i64.wrap ((j:Int)+1)=((j+1:Nat):Int):=by rw [w64 (by omega) (by omega)];omega
   have hge:∀h,(intD l)[j]'h = .int .i64 l[j]:=fun h=>o_ua l j hiw
   have hbl:(intD l).length=l.length:=by simp [intD]
   have hiw2:j<(intD l).length:=by omega
   generalize l[j]=x at *
   simp
   refine A10 (fs hiw (fs hiw' (fs hiw2 (fs ew hge)))) ?_;try with_reducible exact tt
   exact ⟨j+1,by omega,by omega,Sub1.refl _⟩
  ·have hnn:¬(j:Int)<l.length:=by omega
   simp
   refine A11 hnn hs ?_;try with_reducible exact tt
end
section
open Go.RowKit
theorem inR0:inR 0:=by unfold inR;omega
theorem o_uy {c d:CmdM} {s:List Nat} {f:FldM} (g:c.Good) (h:setF c s f=some d):d.Good:=by
 cases f<;>simp only [setF,Option.map_eq_some_iff] at h<;>obtain ⟨v,hv,rfl⟩:=h
 ·exact ⟨g.op,(o_nv hv).1,g.o,g.i,g.n,g.key,g.nums,g.bytes⟩
 ·exact ⟨g.op,g.h,(o_nv hv).1,g.i,g.n,g.key,g.nums,g.bytes⟩
 ·exact ⟨g.op,g.h,g.o,(o_nv hv).1,g.n,g.key,g.nums,g.bytes⟩
 ·exact ⟨g.op,g.h,g.o,g.i,(o_nv hv).1,g.key,g.nums,g.bytes⟩
 ·exact ⟨g.op,g.h,g.o,g.i,g.n,(o_nx hv).1,g.nums,g.bytes⟩
theorem o_uz:∀(l:List FldM) (r:List (List Nat)) (c d:CmdM),c.Good→setsF c l r=some d→d.Good
 | [],[],c,d,g,h=>by cases h;exact g
 | [],_::_,c,d,_,h=>by cases h
 | _::_,[],c,d,_,h=>by cases h
 | f::l,s::r,c,d,g,h=>by
  rw [setsF,Option.bind_eq_some_iff] at h
  obtain ⟨e,h1,h2⟩:=h
  exact o_uz l r e d (o_uy g h1) h2
theorem o_v0 (k:Nat) (h:k<10):({ CmdM.zero with op:=k }:CmdM).Good:=⟨by unfold inR;simp only;omega,inR0,inR0,inR0,inR0,by simp [CmdM.zero],by simp [CmdM.zero],by simp [CmdM.zero]⟩
theorem o_v1 {ws:List (List Nat)} {c:CmdM} (h:parseW ws=some c):c.Good:=by
 cases ws with
 | nil=>cases h
 | cons w rest =>
  rw [parseW] at h
  split at h
  ·cases h
  rename_i h0
  split at h
  ·split at h
   ·cases h
   ·rw [Option.map_eq_some_iff] at h
    obtain ⟨l,h1,rfl⟩:=h
    exact ⟨by unfold inR;simp only;omega,inR0,inR0,inR0,inR0,by simp [CmdM.zero],(o_o5 _ _ h1).2,by simp [CmdM.zero]⟩
  split at h
  ·rcases rest with _ | ⟨s,_ | ⟨t,r⟩⟩
   ·cases h
   ·rw [parse8] at h
    split at h
    ·cases h;exact o_v0 8 (by omega)
    split at h
    ·cases h
    ·rw [Option.map_eq_some_iff] at h
     obtain ⟨b,h1,rfl⟩:=h
     exact ⟨by unfold inR;simp only;omega,inR0,inR0,inR0,inR0,by simp [CmdM.zero],by simp [CmdM.zero],(o_o3 _ _ h1).2⟩
   ·cases h
  ·exact o_uz _ _ _ _ (o_v0 _ (o_nz w h0).2) h
theorem o_v2 {ws:List (List Nat)} {c:CmdM} (h:parseW ws=some c) (n:Nat) (hn:∀w∈ws,w.length≤n):c.nums.length≤ws.length∧c.bytes.length≤n:=by
 cases ws with
 | nil=>cases h
 | cons w rest =>
  rw [parseW] at h
  split at h
  ·cases h
  rename_i h0
  split at h
  ·split at h
   ·cases h
   ·rw [Option.map_eq_some_iff] at h
    obtain ⟨l,h1,rfl⟩:=h
    have:=(o_o5 _ _ h1).1
    have h2:rest.length=l.length:=by rw [←this];simp
    simp [CmdM.zero];omega
  split at h
  ·rcases rest with _ | ⟨s,_ | ⟨t,r⟩⟩
   ·cases h
   ·rw [parse8] at h
    split at h
    ·cases h;simp [CmdM.zero]
    split at h
    ·cases h
    ·rw [Option.map_eq_some_iff] at h
     obtain ⟨b,h1,rfl⟩:=h
     have h2:=(o_o3 _ _ h1).1
     have h3:=o_s4 b
     rw [h2] at h3
     have h4:=hn s (by simp)
     simp [CmdM.zero];omega
   ·cases h
  ·obtain ⟨h1,h2⟩:=o_ta _ _ _ _ h
   rw [h1,h2];simp [CmdM.zero]
theorem o_v3 {l:List Nat} {c:CmdM} (h:parseM l=some c) (hl:∀x∈l,x<256) (hn:l.length≤300):c.Good∧c.nums.length≤301∧c.bytes.length≤300:=by
 unfold parseM at h
 have hw:=o_tc hl (by omega)
 have h1:∀w∈spltN 32 l,w.length≤300:=by
  intro w hw
  have h1:∀(ws:List (List Nat)),w∈ws→w.length≤(joinN 32 ws).length:=by
   intro ws
   induction ws with
   | nil=>intro h;simp at h
   | cons a r ih =>
    intro h
    cases r with
    | nil=>simp at h;subst h;simp [joinN]
    | cons b r =>
     rw [o_pn _ _ _ (by simp)]
     rcases List.mem_cons.1 h with rfl | h
     ·simp
     ·have:=ih h;simp at this ⊢;omega
  have:=h1 _ hw
  rw [o_ps] at this
  omega
 obtain ⟨h2,h3⟩:=o_v2 h 300 h1
 refine ⟨o_v1 h,?_,h3⟩
 rw [o_pr] at h2
 have:l.count 32≤l.length:=List.count_le_length
 omega
theorem o_v4 (s:ByteArray):∃l:List Nat,(∀x∈l,x<256)∧s=bst l:=by
 refine ⟨s.data.toList.map UInt8.toNat,?_,?_⟩
 ·intro x hx
  obtain ⟨u,_,rfl⟩:=List.mem_map.1 hx
  exact u.toNat_lt
 ·unfold bst
  rw [List.map_map]
  have:(UInt8.ofNat ∘ UInt8.toNat)=id:=by funext u;simp
  rw [this,List.map_id]
theorem o_v5 (c:CmdM) (N B:D):∃a1 a2 a3 a4 a5 a6 a7 a8,lineD c N B = .agg [a1,a2,a3,a4,a5,a6,a7,a8]:=by
 unfold lineD
 split
 ·exact ⟨_,_,_,_,_,_,_,_,rfl⟩
 ·exact ⟨_,_,_,_,_,_,_,_,rfl⟩
theorem o_v6 (s:ByteArray) (hs:s.size≤9223372036854775807):Eqn Tryz.prog o_cn [.d (.str s)] [] (.d (.bool true)) []:=by
 refine Eqn.pure o_cp (o_6a _) ?_
 have haw:=o_to
 refine cc (c':=?z302) ?_ ?_
 case refine_1=>cbv<;>exact rfl
 -- the line,cut short
 obtain ⟨l,hl,hln,hcut⟩:∃l:List Nat,(∀x∈l,x<256)∧l.length≤300∧(if 300<s.size then s.extract 0 300 else s)=bst l:=by
  obtain ⟨l,hl,rfl⟩:=o_v4 s
  rw [o_uh]
  split
  ·exact ⟨l.take 300,fun x hx=>hl x (List.mem_of_mem_take hx),by rw [List.length_take];omega,by rw [o_q1];rfl⟩
  ·exact ⟨l,hl,by omega,rfl⟩
 have hp:=o_td l hl (by omega)
 cases hc:parseM l with
 | none =>
  rw [hc] at hp
  have hz:=o_ux CmdM.zero .nilsl (.inr ⟨rfl,rfl⟩) (by simp [CmdM.zero]) (by simp [CmdM.zero])
  replace hp:Eqn Tryz.prog o_bp [.d (.str (bst l))] [] (.tup [.d (.agg [.int .i64 0,.int .i64 0,.int .i64 0,.int .i64 0,.int .i64 0,.int .u64 0,.nilsl,.nilsl]),.d (.int .i64 4)]) []:=hp
  replace hz:Eqn Tryz.prog o_d2 [.d (.agg [.int .i64 0,.int .i64 0,.int .i64 0,.int .i64 0,.int .i64 0,.int .u64 0,.nilsl,.nilsl]),.d (.agg [.int .i64 0,.int .i64 0,.int .i64 0,.int .i64 0,.int .i64 0,.int .u64 0,.nilsl,.nilsl])] [] (.d (.bool true)) []:=hz
  by_cases h3:300<s.size
  ·rw [if_pos h3] at hcut
   rw [←hcut] at hp
   have h3':(300:Int)<s.size:=by omega
   refine A13 (fs h3 h3') haw hp hz ?_;try with_reducible exact tt
  ·rw [if_neg h3] at hcut
   rw [←hcut] at hp
   have h3':¬(300:Int)<s.size:=by omega
   refine A13 (fs h3 h3') haw hp hz ?_;try with_reducible exact tt
 | some c =>
  rw [hc] at hp
  obtain ⟨g,g1,g2⟩:=o_v3 hc hl hln
  have ht:=o_py hc
  have h1:=o_up c (numsD c.nums) (bytesD c.bytes) g (o_uw _) (o_uv _) (by omega) (by omega)
  have h2:=o_u2 c (numsD c.nums) (bytesD c.bytes) g (o_uw _) (o_uv _) (by omega) (by omega) (by rw [ht];omega)
  rw [ht] at h1 h2
  obtain ⟨a1,a2,a3,a4,a5,a6,a7,a8,hl8⟩:=o_v5 c (numsD c.nums) (bytesD c.bytes)
  rw [hl8] at h1
  simp only [parseF,cmdA,cmdD] at hp h1 h2
  have hN:(∃n l,numsD c.nums = .sl n l)∨numsD c.nums = .nilsl:=by
   by_cases h:c.nums=[]
   ·right;rw [h];rfl
   ·exact .inl ⟨_,_,o_us h⟩
  have hB:(∃n l,bytesD c.bytes = .sl n l)∨bytesD c.bytes = .nilsl:=by
   by_cases h:c.bytes=[]
   ·right;rw [h];rfl
   ·exact .inl ⟨_,_,o_ut h⟩
  generalize numsD c.nums=N at *
  generalize bytesD c.bytes=B at *
  by_cases h3:300<s.size
  ·rw [if_pos h3] at hcut
   rw [←hcut] at hp h1 h2
   have h3':(300:Int)<s.size:=by omega
   rcases hN with ⟨n1,l1,rfl⟩ | rfl<;>rcases hB with ⟨n2,l2,rfl⟩ | rfl
   all_goals
    refine A14 (fs h3 h3') haw hp h1 h2 ?_;try with_reducible exact tt
  ·rw [if_neg h3] at hcut
   rw [←hcut] at hp h1 h2
   have h3':¬(300:Int)<s.size:=by omega
   rcases hN with ⟨n1,l1,rfl⟩ | rfl<;>rcases hB with ⟨n2,l2,rfl⟩ | rfl
   all_goals
    refine A14 (fs h3 h3') haw hp h1 h2 ?_;try with_reducible exact tt
end
section
open Go.RowKit
def NL (n:Nat):ByteArray:=bst (List.replicate n 10)
theorem o_v7 (a b:Nat):NL a++NL b=NL (a+b):=by unfold NL;rw [o_gi,List.replicate_append_replicate]
theorem o_v8 (a b:Nat) (h:b≤a):(NL a).extract 0 b=NL b:=by
 unfold NL;rw [o_q1];congr 1;simp;omega
theorem o_v9 (a:Nat):(NL a).size=a:=by unfold NL;rw [o_uh];simp
theorem o_va (k:Nat):rD (k:Rat) = .agg [natW k,.bool false,natW 0]:=by
 unfold rD
 have h1:((k:Rat)).num=k:=Rat.num_natCast k
 have h2:((k:Rat)).den=1:=Rat.den_natCast k
 rw [h1,h2]
 have h3:decide ((k:Int)<0)=false:=by simp
 rw [h3];rfl
theorem o_vb (k:Nat):txtQ (k:Rat)=bst (itoaN k):=by
 have h1:((k:Rat)).num=k:=Rat.num_natCast k
 have h2:((k:Rat)).den=1:=Rat.den_natCast k
 unfold txtQ
 rw [h2,if_pos rfl,h1]
 unfold txtZ itoaN
 rw [if_neg (by omega),if_neg (by omega)];rfl
theorem o_vc (k:Nat) (h:k≤70000):size k≤1000:=by
 have h1:size k≤1:=o_er (o_f1 k) (by rw [o_ez];omega)
 omega
theorem o_vd (k:Nat) (hk:k≤70000):∀N M:D,natW k=N→natW 0=M→Eqn Tryz.prog o_bm [.d (.agg [.int .i64 4,.int .i64 0,.int .i64 0,.int .i64 0,.int .i64 0,.int .u64 0,.nilsl,.nilsl]),.d (.agg [.int .i64 0,.int .i64 0,.bool true,N,.bool false,M,.nilsl,.bool false,.nilsl,.nilsl,.bool false,.nilsl,.nilsl,.bool false,.nilsl,.nilsl])] [] (.d (.str (bst (itoaN k)++⟨#[32,102,117,108,108]⟩))) []:=by
 intro N M hN hM
 refine Eqn.pure o_bo (o_6a _) ?_
 have h1:=o_k4 (k:Rat) ⟨by rw [Rat.num_natCast];exact o_vc k hk,by rw [Rat.den_natCast];exact o_vc 1 (by omega)⟩
 rw [o_va,o_vb,hN,hM] at h1
 have hs:=o_u7 k (by unfold inR;omega)
 refine cc (c':=?z303) ?_ ?_
 case refine_1=>cbv<;>exact rfl
 obtain ⟨n1,l1,rfl⟩:∃n l,N=D.sl n l:=⟨_,_,hN.symm⟩
 obtain ⟨n2,l2,rfl⟩:∃n l,M=D.sl n l:=⟨_,_,hM.symm⟩
 clear hN hM
 have hF:(⟨#[32,102,117,108,108]⟩:ByteArray).size=5:=rfl
 generalize (⟨#[32,102,117,108,108]⟩:ByteArray)=F at *
 generalize bst (itoaN k)=S at *
 refine A11 hF h1 ?_;try with_reducible exact tt
theorem o_ve (k:Nat) (hk:k≤70000):Eqn Tryz.prog o_bs [.d (.str (NL k)),.d .nilsl] [] (.d (.str (if 65536<k then bst [101,114,114,111,114,32,51,10] else bst []))) []:=by
 split
 ·rename_i h;exact o_tl (NL k) (by rw [o_v9];exact h)
 ·rename_i h;exact o_tk k (by omega)
set_option maxHeartbeats 4000000 in
theorem o_vf (n:Int):Eqn Tryz.prog o_ck [.d (.int .i64 n)] [] (.d (.bool true)) []:=by
 refine Eqn.pure o_cm (o_6a _) ?_
 have haw:=o_to
 refine cc (c':=?z304) ?_ ?_
 case refine_1=>cbv<;>exact rfl
 obtain ⟨k,hk,hk7⟩:∃k:Nat,max 0 (min n 70000)=(k:Int)∧k≤70000:=⟨(max 0 (min n 70000)).toNat,by omega,by omega⟩
 have hro:=o_ik k (by omega)
 rw [o_va] at hro
 have han:=o_vd k hk7 _ _ rfl rfl
 have hrn:=o_ve k hk7
 have hnu:=o_ts k (by unfold inR;omega)
 have hs:=o_u7 k (by unfold inR;omega)
 obtain ⟨n1,l1,hN⟩:∃n l,natW k=D.sl n l:=⟨_,_,rfl⟩
 obtain ⟨n2,l2,hM⟩:∃n l,natW 0=D.sl n l:=⟨_,_,rfl⟩
 rw [hN,hM] at han hro
 have hE:bst [101,114,114,111,114,32,51,10]=⟨#[101,114,114,111,114,32,51,10]⟩:=rfl
 have hZ:bst []=⟨#[]⟩:=rfl
 have hF:(⟨#[32,102,117,108,108]⟩:ByteArray).size=5:=rfl
 have hN1:(⟨#[10]⟩:ByteArray)=NL 1:=rfl
 have hN0:NL 0=⟨#[]⟩:=rfl
 rw [hE,hZ] at hrn
 simp only [hN1]
 generalize (⟨#[32,102,117,108,108]⟩:ByteArray)=F at *
 generalize bst (itoaN k)=S at *
 by_cases h0:k=0
 ·subst h0
  rw [if_neg (by omega),hN0] at hrn
  have hk':max 0 (min n 70000)=0:=hk
  refine A16 (fs hk' hF) haw hro han hrn hnu hnu ?_;try with_reducible exact tt
 have hk0:(0:Int)<k:=by omega
 have hkn:0<k:=by omega
 refine A11 (fs hk (fs hk0 hkn)) haw ?_;try with_reducible exact tt
 refine AW.loopE (α:=Nat) (fun p=>setS (List.replicate 47 .junk) [(0,.d (.int .i64 k)),(3,.d (.str (NL p)))]) (fun p=>[]) (fun p=>1≤p∧p≤k) (fun p=>k-p) 1 ?_ ⟨by omega,by omega⟩ ?_ ?_ ?_
 ·intro p _;exact Nat.zero_le _
 ·simp
 ·simp
 rintro p ⟨hp1,hp2⟩
 have hsz:=o_v9 p
 have hw1:IntKind.i64.wrap (2*(p:Int))=2*(p:Int):=w64 (by omega) (by omega)
 by_cases hpk:2*p≤k
 ·have hpk':2*(p:Int)≤k:=by omega
  have ha:=o_v7 p p
  simp
  refine A10 (fs hsz (fs hw1 (fs hpk' ha))) ?_;try with_reducible exact tt
  exact ⟨p+p,⟨by omega,by omega⟩,by omega,Sub1.refl _⟩
 ·have hpk':¬2*(p:Int)≤k:=by omega
  have hw2:IntKind.i64.wrap ((k:Int)-p)=(k:Int)-p:=w64 (by omega) (by omega)
  have hsb:((k:Int)-p).toNat=k-p:=by omega
  have hex:=o_v8 p (k-p) (by omega)
  have ha:NL p++NL (k-p)=NL k:=by rw [o_v7];congr 1;omega
  have hsz2:=o_v9 (k-p)
  by_cases h6:65536<k
  ·rw [if_pos h6] at hrn
   have h6':(65536:Int)<k:=by omega
   simp
   refine A14 (fs hsz (fs hw1 (fs hpk' (fs hw2 (fs hsb (fs hex (fs ha (fs hsz2 (fs hF (fs h6 h6')))))))))) hro han hrn hnu ?_;try with_reducible exact tt
  ·rw [if_neg h6] at hrn
   have h6':¬(65536:Int)<k:=by omega
   simp
   refine A14 (fs hsz (fs hw1 (fs hpk' (fs hw2 (fs hsb (fs hex (fs ha (fs hsz2 (fs hF (fs h6 h6')))))))))) hro han hrn hnu ?_;try with_reducible exact tt
end
section
open Go.RowKit
theorem o_vg {W:World} {b o:Nat} {u:Value} (h:W.cell? ⟨b,o,none⟩=some u):b<W.heap.size:=by
 rcases Nat.lt_or_ge b W.heap.size with h6 | h6
 ·exact h6
 ·unfold World.cell? at h
  rw [Array.getElem?_eq_none h6] at h
  cases h
theorem o_vh {I:Nat→Prop} {w:World} {b o:Nat} {d:D} {u:Value} (hb:I b) (hu:u.oneCell'=true) (hd:D.rep I w d u) (hc:w.cell? ⟨b,o,none⟩=some u):D.rep I w (.ptr [d] 0) (.pointer (some ⟨b,o,none⟩)):=by
 unfold D.rep
 refine ⟨b,o,rfl,hb,[u],by simpa using hu,?_,fun i v hv=>?_⟩
 ·unfold D.reps
  exact ⟨u,[],rfl,hd,by unfold D.reps;rfl⟩
 ·cases i with
  | zero=>simp at hv;subst hv;exact hc
  | succ i=>simp at hv
theorem o_vi {W:World} {g b o t:Nat} {s:ByteArray} (h1:W.cell? ⟨g,0,none⟩=some (.iface t (.pointer (some ⟨b,o,none⟩)))) (h2:W.cell? ⟨b,o,none⟩=some (.string s)):D.rep (memW W).I W (.ptr [.ifc t (.ptr [.str s] 0)] 0) (.pointer (some ⟨g,0,none⟩)):=by
 refine o_vh (o_vg h1) rfl ?_ h1
 unfold D.rep
 exact ⟨_,rfl,o_vh (o_vg h2) rfl (by unfold D.rep;rfl) h2⟩
theorem tabsS {W:World} (h0:∀(i:Nat) u,(([1,10,100,1000,10000,100000,1000000,10000000,100000000,1000000000,10000000000,100000000000,1000000000000,10000000000000,100000000000000,1000000000000000,10000000000000000,100000000000000000,1000000000000000000,10000000000000000000]:List Int).map (Value.int .u64))[i]?=some u→W.cell? ⟨0,i,none⟩=some u)
  (h6:∃b o,W.cell? ⟨6,0,none⟩=some (.iface 454 (.pointer (some ⟨b,o,none⟩)))∧W.cell? ⟨b,o,none⟩=some (.string ⟨#[105,110,118,97,108,105,100,32,115,121,110,116,97,120]⟩))
  (h7:∃b o,W.cell? ⟨7,0,none⟩=some (.iface 454 (.pointer (some ⟨b,o,none⟩)))∧W.cell? ⟨b,o,none⟩=some (.string ⟨#[118,97,108,117,101,32,111,117,116,32,111,102,32,114,97,110,103,101]⟩)):Tabs (memW W):=by
 intro g l hg
 unfold tab at hg
 split at hg
 ·rename_i e
  subst e
  cases hg
  have hlt:0<W.heap.size:=o_vg (h0 0 _ rfl)
  unfold D.rep
  refine ⟨0,0,rfl,hlt,([1,10,100,1000,10000,100000,1000000,10000000,100000000,1000000000,10000000000,100000000000,1000000000000,10000000000000,100000000000000,1000000000000000,10000000000000000,100000000000000000,1000000000000000000,10000000000000000000]:List Int).map (Value.int .u64),fun u hu=>?_,reps_of (I:=(memW W).I) (w:=W) (fun z:Int=>D.int .u64 z) (Value.int .u64) (fun _=>by unfold D.rep;rfl) ([1,10,100,1000,10000,100000,1000000,10000000,100000000,1000000000,10000000000,100000000000,1000000000000,10000000000000,100000000000000,1000000000000000,10000000000000000,100000000000000000,1000000000000000000,10000000000000000000]:List Int),fun i u hu=>?_⟩
  ·obtain ⟨z,-,rfl⟩:=List.mem_map.1 hu
   rfl
  ·rw [Nat.zero_add];exact h0 i u hu
 split at hg
 ·rename_i e
  subst e
  cases hg
  obtain ⟨b,o,h1,h2⟩:=h6
  exact o_vi h1 h2
 split at hg
 ·rename_i e
  subst e
  cases hg
  obtain ⟨b,o,h1,h2⟩:=h7
  exact o_vi h1 h2
 ·cases hg
end
section
open Go.RowKit
theorem sl_walk {W:World} (ht:Tabs (memW W)) {n:Int}:Calls Tryz.prog o_ck #[.int .i64 n] W (fun e W'=>e = .returned (.bool true)∧Same W W') :=
 o_ox o_cm (o_vf n) (V.reps_cons.2 ⟨by rw [V.rep_d];exact D.rep_int.2 rfl,V.reps_nil.2 rfl⟩) ht
end
section
open Go.RowKit
theorem sp_walk {W:World} (ht:Tabs (memW W)) {s:ByteArray} (hs:s.size≤maxLen):Calls Tryz.prog o_cn #[.string s] W (fun e W'=>e = .returned (.bool true)∧Same W W') :=
 o_ox o_cp (o_v6 s (by unfold maxLen at hs;omega)) (V.reps_cons.2 ⟨by rw [V.rep_d];unfold D.rep;rfl,V.reps_nil.2 rfl⟩) ht
end
end Go.Proofs.YtdakiocgijlgiaaGreatDoor.Am
