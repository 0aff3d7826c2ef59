/- Parts of the proof: Txt5, DivN, Nat8, Nat9, Nat10, Rat3, RatQ, Rat4, Rat5, Pow1, Tape1, Float1, Flip1, Flip2, Morris1, Pow2, DecM, Chain1, Yu1, YuX, YuW, YuAt, YuAt2, Yu2, Float2, Yu3, Chain2, Chain3, Chain4, Chain5, Chain6, ChainP, Chain7, Chain8. -/
import Derived.Test.YtabnkmpkcfjkmaaGreatDoorPc
set_option linter.unusedVariables false
set_option linter.unusedSimpArgs false
set_option maxRecDepth 100000
namespace Go.Proofs.YtabnkmpkcfjkmaaGreatDoor.Am
section
open Go.RowKit
theorem o_so:txt 0=⟨#[48]⟩:=by rw [txt,decN,ndig];rfl
theorem o_sp (n:Nat) (hn:n<18446744073709551616):Eqn Tryz.prog o_gh [.d (.int .u64 n),.d (.int .i64 10)] [] (.d (.str (txt n))) []:=by
 refine Eqn.pure o_gj (o_5e _) ?_
 refine cc (c':=?z49) ?_ ?_
 case refine_1=>cbv<;>exact rfl
 have h:=o_rn n hn
 refine A01 h ?_;try with_reducible exact tt
def wN (a i:Nat):Nat:=a/10^(18*i)
def outN (a i:Nat):List Nat:=if wN a i=0 then decN a else padN (18*i) a
theorem o_sq (a i:Nat):wN a (i+1)=wN a i/1000000000000000000:=by rw [wN,wN,Nat.div_div_eq_div_mul,Nat.mul_succ,Nat.pow_add]
theorem e18:(1000000000000000000:Nat)=10^18:=by decide
theorem o_sr (a i:Nat) (h:0<wN a (i+1)) (h0:0<wN a i):List.replicate (18-(decN (wN a i%1000000000000000000)).length) 48++decN (wN a i%1000000000000000000)++outN a i=outN a (i+1):=by
 have h1:outN a i=padN (18*i) a:=by rw [outN,if_neg (by omega)]
 have h2:outN a (i+1)=padN (18*(i+1)) a:=by rw [outN,if_neg (by omega)]
 have h3:padN (18*(i+1)) a=padN 18 (wN a i)++padN (18*i) a:=by rw [show 18*(i+1)=18+18*i by omega,o_po];rfl
 rw [h1,h2,h3,e18,o_q0 _ 18 (Nat.mod_lt _ (Nat.pow_pos (by decide))) (by decide),o_pt 18 (wN a i)]
theorem o_ss (a i:Nat) (h:wN a (i+1)=0) (h0:0<wN a i):decN (wN a i%1000000000000000000)++outN a i=outN a (i+1):=by
 rw [outN,outN,if_neg (by omega),if_pos h,Nat.mod_eq_of_lt (by rw [o_sq] at h;omega),o_pz (18*i) a h0]
 rfl
theorem splitN (w y:Nat) (h0:0<y):wval (splitW y (words w)).1=w/y∧(splitW y (words w)).2=w%y:=by
 obtain ⟨h1,h2,-,-⟩:=o_s2 h0 (o_nx w)
 rw [o_nw] at h1
 generalize splitW y (words w)=s at *
 constructor
 ·rw [h1,Nat.mul_comm,Nat.mul_add_div h0,Nat.div_eq_of_lt h2,Nat.add_zero]
 ·rw [h1,Nat.mul_comm,Nat.mul_add_mod,Nat.mod_eq_of_lt h2]
theorem o_st (a:Nat) (ha:size a≤1000):Eqn Tryz.prog o_d1 [.d (.agg [natW a])] [] (.d (.str (txt a))) []:=by
 refine Eqn.pure o_d3 (o_5e _) ?_
 have hz:=o_o7 a
 refine cc (c':=?z50) ?_ ?_
 case refine_1=>cbv<;>exact rfl
 by_cases h0:a=0
 ·subst h0
  refine A01 hz ?_;try with_reducible exact tt
  exact Sub1.of (by rw [o_so])
 have hda:ndig a≤20000:=by
  have h1:=o_n1 (o_nx a)
  rw [o_nw] at h1
  obtain ⟨K,hK⟩:∃K,K=20*(words a).length:=⟨_,rfl⟩
  have h2:a<10^K:=by
   rw [hK,Nat.pow_mul]
   exact Nat.lt_of_lt_of_le h1 (Nat.pow_le_pow_left (by decide) _)
  rcases Nat.eq_zero_or_pos K with h3 | h3
  ·rw [h3] at h2;simp at h2;omega
  ·have:=o_px a K h2 h3
   rw [o_oz] at hK
   omega
 refine A11 h0 hz ?_;try with_reducible exact tt
 refine AW.loopT (α:=Nat) 1 (fun i=>[(4,.d (natW (wN a i))),(3,.d (.str (bst (outN a i))))]) (fun i=>[]) (fun i=>True) (fun i=>wN a i) 0 ?_ ?_ trivial ?_ ?_ ?_
 ·simp
 ·simp
 ·have e1:outN a 0=[]:=by rw [outN,if_neg (by rw [wN];simpa using h0)];rfl
  have e2:wN a 0=a:=by simp [wN]
  rw [e1,e2]
  simp [o_q3]
 ·simp
 intro i _
 have hw:wN a i≤a:=Nat.div_le_self _ _
 have hsw:=o_oq hw
 by_cases hwz:wN a i=0
 ·have e1:outN a i=decN a:=by rw [outN,if_pos hwz]
  rw [e1,hwz,o_o2]
  simp
  refine A00 ?_;try with_reducible exact tt
  exact Sub1.of rfl
 ·have hs:=o_s5 (words (wN a i)) 1000000000000000000 (o_nx _) (by rw [o_oz];omega) (by decide) (by decide)
  have ht:=o_o5 (splitW 1000000000000000000 (words (wN a i))).1 (o_s2 (by decide) (o_nx _)).2.2.1 (by rw [(o_s2 (y:=1000000000000000000) (by decide) (o_nx _)).2.2.2,o_oz];omega)
  obtain ⟨k1,k2⟩:=splitN (wN a i) 1000000000000000000 (by decide)
  rw [k2] at hs
  rw [k1,←o_sq] at ht
  have hf:=o_sp (wN a i%1000000000000000000) (Nat.lt_trans (Nat.mod_lt _ (by decide)) (by decide))
  have hlt:wN a (i+1)<wN a i:=by rw [o_sq];exact Nat.div_lt_self (by omega) (by decide)
  have hdl:=o_q4 (wN a i%1000000000000000000)
  have hd18:=o_px (wN a i%1000000000000000000) 18 (Nat.mod_lt _ (by decide)) (by decide)
  have hd0:=o_pv (wN a i%1000000000000000000)
  obtain ⟨w,hwd⟩:∃w,w=wN a i:=⟨_,rfl⟩
  obtain ⟨w1,hwd1⟩:∃w,w=wN a (i+1):=⟨_,rfl⟩
  obtain ⟨pt,hpt⟩:∃w,w=wN a i%1000000000000000000:=⟨_,rfl⟩
  have hW:natW w=W (words w):=rfl
  have hlw:0<(words w).length:=by
   rcases Nat.eq_zero_or_pos (words w).length with h | h
   ·exact absurd (o_o0.1 (List.eq_nil_of_length_eq_zero h)) (by omega)
   ·exact h
  have hol:(outN a i).length≤20000:=by
   rw [outN,if_neg hwz,o_pn]
   have:=o_py (18*i) a (Nat.pos_of_ne_zero hwz)
   omega
  have hmore:=o_sr a i
  have hlast:=o_ss a i
  rw [←hpt] at hs hf hmore hlast hdl hd18 hd0
  rw [←hwd] at hs ht hlt hmore hlast hwz hw hsw ⊢
  rw [←hwd1] at ht hlt hmore hlast
  simp only [W] at hs ht hW
  generalize (words w).length=nw at *
  generalize ((words w).map fun x:Nat=>D.int .u64 x)=LW at *
  generalize (splitW 1000000000000000000 (words w)).1=sw1 at *
  simp
  rw [hW]
  have hlw':(0:Int)<nw:=by omega
  rw [txt] at hf
  obtain ⟨O,hO⟩:∃O,O=outN a i:=⟨_,rfl⟩
  obtain ⟨B,hB⟩:∃B,B=decN pt:=⟨_,rfl⟩
  rw [←hO] at hmore hlast hol ⊢
  rw [←hB] at hmore hlast hdl hf
  refine A13 (fs hlw hlw') hs ht hf ?_;try with_reducible exact tt
  have hap:=o_q1
  by_cases h1:w1=0
  ·rw [h1,o_o2]
   replace hlast:=hlast (by omega) (by omega)
   refine A00 ?_;try with_reducible exact tt
   have e1:=o_q1 B O
   rw [hlast] at e1
   exact ⟨i+1,by rw [←hwd1];exact hlt,Sub1.of (by rw [e1]),Sub1.of (by rw [←hwd1,h1,o_o2])⟩
  ·have hW1:natW w1=W (words w1):=rfl
   simp only [W] at hW1
   have hl1:0<(words w1).length:=by
    rcases Nat.eq_zero_or_pos (words w1).length with h | h
    ·exact absurd (o_o0.1 (List.eq_nil_of_length_eq_zero h)) h1
    ·exact h
   generalize (words w1).length=nw1 at *
   generalize ((words w1).map fun x:Nat=>D.int .u64 x)=LW1 at *
   have hl1':(0:Int)<nw1:=by omega
   replace hmore:=hmore (by omega) (by omega)
   obtain ⟨k,hk⟩:∃k,k=18-B.length:=⟨_,rfl⟩
   have hr:=o_sn k (by omega)
   have ek:IntKind.i64.wrap (18-(B.length:Int))=k:=by rw [w64 (by omega) (by omega)];omega
   rw [←hk] at hmore
   have e1:=o_q1 (List.replicate k 48) B
   have e2:=o_q1 (List.replicate k 48++B) O
   rw [hmore] at e2
   rw [hW1]
   have hsz:(List.replicate k 48++B).length≤18:=by simp;omega
   generalize hRB:List.replicate k 48++B=RB at *
   generalize hRR:List.replicate k 48=RR at *
   have hrl:RR.length≤18:=by rw [←hRR];simp;omega
   refine A11 (fs hl1 (fs hl1' (fs ek e1))) hr ?_;try with_reducible exact tt
   exact ⟨i+1,by rw [←hwd1];exact hlt,Sub1.of (by rw [e2]),Sub1.of (by rw [←hwd1,hW1])⟩
end
section
def wordsN:Nat→Nat→List Nat
 | 0,_=>[]
 | m+1,x=>x%18446744073709551616::wordsN m (x/18446744073709551616)
theorem o_su:∀m x,(wordsN m x).length=m
 | 0,_=>rfl
 | m+1,x=>by simp [wordsN,o_su m]
theorem o_sv:∀m x,small (wordsN m x)
 | 0,_=>by simp [wordsN,small]
 | m+1,x=>by
  intro y hy
  rw [wordsN,List.mem_cons] at hy
  rcases hy with rfl | hy
  ·omega
  ·exact o_sv m _ y hy
theorem o_sw:∀m x,x<18446744073709551616^m→wval (wordsN m x)=x
 | 0,x,h=>by simp at h;simp [wordsN,wval,h]
 | m+1,x,h=>by
  rw [wordsN,wval,o_sw m _ (by rw [Nat.pow_succ] at h;rw [Nat.div_lt_iff_lt_mul (by decide)];exact h)]
  omega
theorem o_sx:∀{l:List Nat},small l→wordsN l.length (wval l)=l
 | [],_=>rfl
 | x::l,h=>by
  have hx:=h x (by simp)
  have hl:small l:=fun y hy=>h y (by simp [hy])
  rw [List.length_cons,wordsN,wval]
  congr 1
  ·omega
  ·rw [show (x+18446744073709551616*wval l)/18446744073709551616=wval l by omega];exact o_sx hl
theorem o_sy {l:List Nat} {m x:Nat} (h:small l) (hl:l.length=m) (hv:wval l=x):l=wordsN m x:=by rw [←hl,←hv,o_sx h]

def ovr (ws:List Nat) (k:Nat) (l:List Nat):List Nat:=ws.take k++(l++ws.drop (k+l.length))
theorem o_sz {ws:List Nat} {k:Nat} {l:List Nat} (h:k+l.length≤ws.length):(ovr ws k l).length=ws.length:=by simp [ovr];omega
theorem o_t0 {ws:List Nat} {k:Nat} {l:List Nat} (h:small ws) (hl:small l):small (ovr ws k l):=by
 intro x hx
 simp only [ovr,List.mem_append] at hx
 rcases hx with hx | hx | hx
 ·exact h x (List.mem_of_mem_take hx)
 ·exact hl x hx
 ·exact h x (List.mem_of_mem_drop hx)
theorem o_t1 (ws:List Nat) (k:Nat):ovr ws k []=ws:=by simp [ovr]
theorem o_t2 {ws:List Nat} {k:Nat} {l:List Nat} (h:k+l.length<ws.length):(ovr ws k l).getD (k+l.length) 0=ws.getD (k+l.length) 0:=by
 simp only [ovr,List.getD_eq_getElem?_getD]
 congr 1
 rw [List.getElem?_append_right (by rw [List.length_take];omega),List.length_take,Nat.min_eq_left (by omega),List.getElem?_append_right (by omega),List.getElem?_drop]
 congr 1;omega
theorem o_t3 {ws:List Nat} {k:Nat} {l:List Nat} (h:k+l.length<ws.length) (v:Nat):(ovr ws k l).set (k+l.length) v=ovr ws k (l++[v]):=by
 have e:ws.drop (k+l.length)=ws.getD (k+l.length) 0::ws.drop (k+(l.length+1)):=by
  rw [List.getD_eq_getElem?_getD,List.getElem?_eq_getElem h,Option.getD_some,←Nat.add_assoc]
  exact List.drop_eq_getElem_cons h
 simp only [ovr]
 rw [List.set_append_right _ _ (by rw [List.length_take];omega),List.length_take,Nat.min_eq_left (by omega),show k+l.length-k=l.length by omega,List.set_append_right _ _ (by omega),Nat.sub_self,e]
 simp
theorem o_t4 {ws:List Nat} {k:Nat} {l r:List Nat} (h:k+l.length≤ws.length) (hl:l.length≤r.length):ovr (ovr ws k l) k r=ovr ws k r:=by
 simp only [ovr]
 have h1:(ws.take k).length=k:=by rw [List.length_take];omega
 rw [List.take_append_of_le_length (by omega),List.take_of_length_le (by omega)]
 congr 2
 rw [List.drop_append,List.drop_eq_nil_of_le (by omega),List.nil_append,h1,List.drop_append,List.drop_eq_nil_of_le (by omega),List.nil_append,List.drop_drop]
 congr 1;omega
theorem o_t5 {ws:List Nat} {k:Nat} {l:List Nat} (h:k+l.length≤ws.length):((ovr ws k l).drop k).take l.length=l:=by
 have h1:(ws.take k).length=k:=by rw [List.length_take];omega
 simp only [ovr]
 rw [List.drop_append,List.drop_eq_nil_of_le (by omega),List.nil_append,h1,Nat.sub_self,List.drop_zero,List.take_append_of_le_length (by omega),List.take_of_length_le (by omega)]
theorem o_t6 {ws:List Nat} {k n i:Nat} (h:i<n):((ws.drop k).take n).getD i 0=ws.getD (k+i) 0:=by
 simp only [List.getD_eq_getElem?_getD,List.getElem?_take,if_pos h,List.getElem?_drop]
theorem o_t7 {ws:List Nat} {k n:Nat} (h:k+n≤ws.length):((ws.drop k).take n).length=n:=by simp;omega
theorem o_t8 {ws:List Nat} (h:small ws) (k:Nat):small (ws.drop k):=fun x hx=>h x (List.mem_of_mem_drop hx)
theorem o_t9 {l:List Nat} (h:small l) {v:Nat} (hv:v<18446744073709551616):small (l++[v]):=by
 intro x hx
 rw [List.mem_append,List.mem_singleton] at hx
 rcases hx with hx | rfl
 ·exact h x hx
 ·exact hv
theorem o_ta (l:List Nat) (v:Nat):wval (l++[v])=wval l+18446744073709551616^l.length*v:=by
 rw [o_mz];simp [wval]
theorem o_tb:small []:=by simp [small]

theorem o_tc {l0 g D0 U0 p bo c x y lo hi l2 k2 nb z:Nat} (hv:l0+g*D0=U0+p*(bo+c)) (hyg:y*g=hi*18446744073709551616+lo) (h1:lo+c=l2+18446744073709551616*k2) (h2:x+18446744073709551616*nb=z+l2+bo) :
  l0+p*z+g*(D0+p*y)=U0+p*x+p*18446744073709551616*(nb+(hi+k2)):=by
 have e1:p*x+18446744073709551616*(p*nb)=p*z+p*l2+p*bo:=by
  have:=congrArg (p * ·) h2
  simp only [Nat.mul_add] at this
  rw [←Nat.mul_assoc,Nat.mul_comm p 18446744073709551616,Nat.mul_assoc] at this
  exact this
 have e2:p*lo+p*c=p*l2+18446744073709551616*(p*k2):=by
  have:=congrArg (p * ·) h1
  simp only [Nat.mul_add] at this
  rw [←Nat.mul_assoc p 18446744073709551616,Nat.mul_comm p 18446744073709551616,Nat.mul_assoc 18446744073709551616] at this
  exact this
 have e3:g*(p*y)=18446744073709551616*(p*hi)+p*lo:=by
  have:=congrArg (p * ·) hyg
  simp only [Nat.mul_add] at this
  rw [←Nat.mul_assoc p hi,Nat.mul_comm (p*hi),←Nat.mul_assoc p y g,Nat.mul_comm (p*y) g] at this
  exact this
 have e4:p*18446744073709551616*(nb+(hi+k2))=18446744073709551616*(p*nb)+18446744073709551616*(p*hi)+18446744073709551616*(p*k2):=by
  rw [Nat.mul_comm p,Nat.mul_assoc,Nat.mul_add,Nat.mul_add,Nat.mul_add,Nat.mul_add];omega
 rw [Nat.mul_add,e3,e4]
 rw [Nat.mul_add] at hv
 omega
theorem o_td {ws:List Nat} {n:Nat} (h:small ws) (hl:ws.length=n):wval ws<18446744073709551616^n:=by rw [←hl];exact o_n1 h
theorem o_te {u:List Nat} {n z c b x nb gD wl Un:Nat} {l':List Nat} (h1:wval l'=wl+18446744073709551616^n*z) (hv:wl+gD=Un+18446744073709551616^n*(b+c)) (hux:wval u=Un+18446744073709551616^n*x) (hzb:x+18446744073709551616*nb=z+c+b) (hnb:nb≤1) (hs:small l') (hl:l'.length=n+1) (hus:small u) (hul:u.length=n+1) :
  nb=(if wval u<gD then 1 else 0)∧l'=wordsN (n+1) (wval u+(if wval u<gD then 18446744073709551616^(n+1) else 0)-gD):=by
 have e1:wval l'+gD=wval u+18446744073709551616^(n+1)*nb:=by
  have:=congrArg (18446744073709551616^n * ·) hzb
  simp only [Nat.mul_add] at this
  rw [←Nat.mul_assoc,←Nat.pow_succ] at this
  rw [Nat.mul_add] at hv
  simp only [Nat.succ_eq_add_one] at this
  omega
 have hlt:=o_td hs hl
 have hult:=o_td hus hul
 generalize 18446744073709551616^(n+1)=M at *
 have hc:nb=0∨nb=1:=by omega
 rcases hc with rfl | rfl
 ·rw [if_neg (by omega),if_neg (by omega)]
  exact ⟨rfl,o_sy hs hl (by omega)⟩
 ·rw [if_pos (by omega),if_pos (by omega)]
  exact ⟨rfl,o_sy hs hl (by omega)⟩
theorem o_tf {u:List Nat} {m gD:Nat} (hus:small u) (hul:u.length=m) (hg:gD≤wval u+18446744073709551616^m):wval (wordsN m (wval u+(if wval u<gD then 18446744073709551616^m else 0)-gD))+gD=wval u+18446744073709551616^m*(if wval u<gD then 1 else 0):=by
 have hult:=o_td hus hul
 by_cases h:wval u<gD
 ·rw [if_pos h,if_pos h,o_sw _ _ (by omega)];omega
 ·rw [if_neg h,if_neg h,o_sw _ _ (by omega)];omega
theorem o_tg {ws:List Nat} {k:Nat} {l:List Nat} {j:Nat} (h:k+l.length≤ws.length) (hj:j<l.length):(ovr ws k l).getD (k+j) 0=l.getD j 0:=by
 have:=o_t5 h
 rw [←o_t6 (n:=l.length) hj,this]
theorem o_th {wr p c wl wd x y z nc:Nat} (hv:wr+p*c=wl+wd) (h:x+y+c=z+18446744073709551616*nc):wr+p*z+p*18446744073709551616*nc=wl+p*x+(wd+p*y):=by
 have:=congrArg (p * ·) h
 simp only [Nat.mul_add] at this
 rw [←Nat.mul_assoc] at this
 omega
theorem o_ti {wr p c wl wd wL x v nv:Nat} (hv:wr+p*c=wl+wd) (hl:wL=wl+p*x) (h:x+c=v+18446744073709551616*nv):wL+wd=wr+p*v+p*18446744073709551616*nv:=by
 have:=congrArg (p * ·) h
 simp only [Nat.mul_add] at this
 rw [←Nat.mul_assoc] at this
 omega
theorem o_tj {d:List Nat} {n:Nat} (_:n<d.length):d.getD n 0*18446744073709551616^n≤wval d:=by
 have h1:=o_nk d n
 have h2:wval d=wval (d.take (n+1))+18446744073709551616^(d.take (n+1)).length*wval (d.drop (n+1)):=by rw [←o_mz,List.take_append_drop]
 rw [h2,h1,Nat.mul_comm]
 omega
theorem o_tk {u:List Nat} {n m:Nat} (hs:small u) (hl:u.length=m+1) (hm:m=n+1):wval u/18446744073709551616^n=u.getD m 0*18446744073709551616+u.getD n 0:=by
 have h1:=o_nk u n
 have h2:=o_nk u m
 rw [List.take_of_length_le (by omega)] at h2
 have h3:=o_nt hs n
 have hp:0<18446744073709551616^n:=Nat.pow_pos (by decide)
 rw [h2,hm,h1,Nat.pow_succ,Nat.mul_assoc,Nat.add_assoc,←Nat.mul_add,Nat.add_mul_div_left _ _ hp,Nat.div_eq_of_lt h3,Nat.zero_add,Nat.mul_comm 18446744073709551616]
 omega
theorem o_tl {U0 W1 Bk D S Q BQ:Nat} (h:U0=W1+Bk*S+D*BQ) (hq:BQ=Bk*18446744073709551616*Q):U0=W1+Bk*(S%D)+D*(Bk*(S/D+18446744073709551616*Q)):=by
 have h1:=Nat.div_add_mod S D
 rw [h,hq]
 have e1:Bk*S=Bk*(S%D)+D*(Bk*(S/D)):=by
  conv=>lhs;rw [←h1]
  rw [Nat.mul_add,Nat.mul_left_comm,Nat.add_comm]
 rw [e1,Nat.mul_add Bk,Nat.mul_add D,Nat.mul_assoc Bk]
 omega
theorem o_tm {ws:List Nat} (k n:Nat) (h:k+n≤ws.length):wval (ws.take (k+n))=wval (ws.take k)+18446744073709551616^k*wval ((ws.drop k).take n):=by
 have e:ws.take (k+n)=ws.take k++(ws.drop k).take n:=by rw [List.take_add]
 rw [e,o_mz,List.length_take,Nat.min_eq_left (by omega)]
theorem o_tn {n x:Nat} (h:x<18446744073709551616^n):(wordsN (n+1) x).take n=wordsN n x:=by
 have:∀(n x:Nat),(wordsN (n+1) x).take n=wordsN n x:=by
  intro n
  induction n with
  | zero=>intro x;simp [wordsN]
  | succ n ih=>intro x;rw [wordsN,List.take_succ_cons,ih,wordsN]
 exact this n x
theorem o_to {ws:List Nat} {k:Nat} {l:List Nat} (h:k≤ws.length):(ovr ws k l).take k=ws.take k:=by
 simp only [ovr]
 rw [List.take_append_of_le_length (by rw [List.length_take];omega),List.take_take,Nat.min_self]
theorem o_tp {ws:List Nat} {k m:Nat} (h:k<ws.length):wval ((ws.drop k).take (m+1))=ws.getD k 0+18446744073709551616*wval ((ws.drop (k+1)).take m):=by
 rw [List.drop_eq_getElem_cons h,List.take_succ_cons,wval,List.getD_eq_getElem?_getD,List.getElem?_eq_getElem h];rfl
theorem o_tq {ws:List Nat} {k n x:Nat} (h:k+(n+1)≤ws.length) (hx:x<18446744073709551616^n):wval (((ovr ws k (wordsN (n+1) x)).drop k).take n)=x:=by
 have h1:=o_t5 (ws:=ws) (k:=k) (l:=wordsN (n+1) x) (by rw [o_su];exact h)
 rw [o_su] at h1
 have h2:((ovr ws k (wordsN (n+1) x)).drop k).take n=(((ovr ws k (wordsN (n+1) x)).drop k).take (n+1)).take n:=by rw [List.take_take,Nat.min_eq_left (by omega)]
 rw [h2,h1,o_tn hx,o_sw _ _ hx]
theorem o_tr {k:Nat} {q:List Nat} (v:Nat):(List.replicate (k+1) 0++q).set k v=List.replicate k 0++v::q:=by
 rw [List.replicate_succ',List.append_assoc,List.set_append_right _ _ (by simp)]
 simp
theorem o_ts {Bw:List Nat} {s:Nat} (hb:wval Bw*2^s<18446744073709551616^Bw.length):wval ((movedL s 0 Bw).take Bw.length)=wval Bw*2^s:=by
 have h1:=o_n8 s Bw 0
 have h2:=o_nk (movedL s 0 Bw) Bw.length
 rw [List.take_of_length_le (by rw [o_n7];omega),h1,Nat.add_zero] at h2
 rcases Nat.eq_zero_or_pos ((movedL s 0 Bw).getD Bw.length 0) with h | h
 ·rw [h,Nat.mul_zero,Nat.add_zero] at h2;exact h2.symm
 ·exfalso
  have:18446744073709551616^Bw.length*1≤18446744073709551616^Bw.length*(movedL s 0 Bw).getD Bw.length 0:=Nat.mul_le_mul_left _ h
  omega
end
section
open Go.RowKit
theorem o_tt (θ:Nat→Nat) (ws:List Nat):V.rens θ (uW ws)=uW ws:=by
 have h:=o_61 θ (ws.map fun x:Nat=>D.int .u64 x)
 rw [List.map_map] at h
 exact h
theorem o_tu (ws:List Nat):plainL (uW ws):=⟨o_ry 0 ws,fun θ=>o_tt θ ws⟩

theorem o_tv {y g hi lo:Nat} (hy:y<18446744073709551616) (hg:g<18446744073709551616) (h1:hi=y*g/18446744073709551616) (h2:lo=y*g%18446744073709551616):y*g=hi*18446744073709551616+lo∧lo<18446744073709551616∧hi+1<18446744073709551616:=by
 have hp:y*g≤18446744073709551615*18446744073709551615:=Nat.mul_le_mul (by omega) (by omega)
 generalize y*g=p at *
 omega

def takeR (ws d:List Nat) (k g:Nat):List Nat:=wordsN (d.length+1) (wval ((ws.drop k).take (d.length+1))+(if wval ((ws.drop k).take (d.length+1))<g*wval d then 18446744073709551616^(d.length+1) else 0)-g*wval d)
set_option maxHeartbeats 4000000 in
theorem o_tw (ws d:List Nat) (k g:Nat) (hs:small ws) (hd:small d) (hk:k+d.length+1≤ws.length) (hn:ws.length≤1000000) (hg:g<18446744073709551616) :
  Eqn Tryz.prog o_je [.row 0 k (d.length+1),.d (W d),.d (.int .u64 g)] [⟨181,uW ws⟩] (.d (.int .i64 (if wval ((ws.drop k).take (d.length+1))<g*wval d then 1 else 0))) [⟨181,uW (ovr ws k (takeR ws d k g))⟩]:=by
 refine Eqn.obj1 o_jg Plain.ok (o_tu _) ?_
 obtain ⟨u,hu⟩:∃u,u=(ws.drop k).take (d.length+1):=⟨_,rfl⟩
 have hul:u.length=d.length+1:=by rw [hu];exact o_t7 (by omega)
 have hus:small u:=by rw [hu];exact (o_t8 hs k).take _
 have hug:∀i,i<d.length+1→u.getD i 0=ws.getD (k+i) 0:=fun i hi=>by rw [hu];exact o_t6 hi
 rw [takeR,←hu]
 refine cc (c':=?z51) ?_ ?_
 case refine_1=>cbv<;>exact rfl
 try simp only [W]
 refine G0 ?_;try with_reducible exact tt
 refine AW.loopT (α:=Nat×Nat×Nat×List Nat) 1 (fun s=>[(17,.d (.int .i64 (s.1:Int))),(7,.d (.int .u64 (s.2.1:Int))),(8,.d (.int .u64 (s.2.2.1:Int)))]) (fun s=>[(0,⟨181,uW (ovr ws k s.2.2.2)⟩)]) (fun s=>s.1≤d.length∧s.2.1<18446744073709551616∧s.2.2.1≤1∧s.2.2.2.length=s.1∧small s.2.2.2∧wval s.2.2.2+g*wval (d.take s.1)=wval (u.take s.1)+18446744073709551616^s.1*(s.2.2.1+s.2.1)) (fun s=>d.length-s.1) (0,0,0,[]) ?_ ?_ ⟨Nat.zero_le _,by simp,by simp,rfl,o_tb,by simp [wval]⟩ ?_ ?_ ?_
 ·simp
 ·simp
 ·simp
 ·simp [o_t1,o_ry]
 rintro ⟨i,c,b,l⟩ ⟨hi,hc,hb,hl,hsl,hv⟩
 simp only at hi hc hb hl hsl hv
 simp
 have hol:(uW (ovr ws k l)).length=ws.length:=by rw [o_rv,o_sz (by omega)]
 have hget:=o_rw (ws:=ovr ws k l) (j:=k+i) (by rw [←o_rv,hol];omega)
 have hnx:=o_t2 (ws:=ws) (k:=k) (l:=l) (by omega)
 rw [hl] at hnx
 rw [hnx,←hug i (by omega)] at hget
 have hx:=hus.getD i
 have hset:∀v:Nat,(uW (ovr ws k l)).set (k+i) (.d (.int .u64 v))=uW (ovr ws k (l++[v])):=fun v=>by rw [o_rx,←hl,o_t3 (by omega)]
 have hki:((k:Int)+i).toNat=k+i:=by omega
 obtain ⟨x,hxd⟩:∃x,x=u.getD i 0:=⟨_,rfl⟩
 rw [←hxd] at hget hx
 by_cases hin:i<d.length
 ·have hin':(i:Int)<d.length:=by omega
  have hy:d[i]<18446744073709551616:=hd _ (List.getElem_mem _)
  have hyd:d[i]=d.getD i 0:=o_o4 hin
  have e2:IntKind.i64.wrap ((i:Int)+1)=(i:Int)+1:=w64 (by omega) (by omega)
  refine G1 (fs hin hin') ?_;try with_reducible exact tt
  refine AW.cond rfl (fun h=>?_) (fun h=>?_)
  ·clear h
   refine G1 (fs hin hin') ?_;try with_reducible exact tt
   generalize d[i]=y at hy hyd ⊢
   have hmul:=o_rp y g hy hg
   obtain ⟨hi',hhi⟩:∃q,q=y*g/18446744073709551616:=⟨_,rfl⟩
   obtain ⟨lo,hlo⟩:∃q,q=y*g%18446744073709551616:=⟨_,rfl⟩
   rw [←hhi,←hlo] at hmul
   obtain ⟨hyg,hl0,hh0⟩:=o_tv hy hg hhi hlo
   clear hhi hlo
   obtain ⟨l2,k2,hl1,hll2,hk2⟩:∃l2 k2:Nat,lo+c+0=l2+18446744073709551616*k2∧l2<18446744073709551616∧k2≤1:=⟨(lo+c)%18446744073709551616,(lo+c)/18446744073709551616,by omega,by omega,by omega⟩
   obtain ⟨z,nb,hzb,hz,hnb⟩:∃z nb:Nat,x+18446744073709551616*nb=z+l2+b∧z<18446744073709551616∧nb≤1:=by
    by_cases h:l2+b≤x
    ·exact ⟨x-l2-b,0,by omega,by omega,by omega⟩
    ·exact ⟨x+18446744073709551616-l2-b,1,by omega,by omega,by omega⟩
   have w1:IntKind.u64.wrap ((hi':Int)+k2)=((hi'+k2:Nat):Int):=wu64 (by omega) (by omega)
   have hround:=o_tc hv hyg (by omega:lo+c=l2+18446744073709551616*k2) hzb
   have ht:g*wval (d.take (i+1))=g*(wval (d.take i)+18446744073709551616^i*y):=by rw [o_nk,←hyd]
   have hut:wval (u.take (i+1))=wval (u.take i)+18446744073709551616^i*x:=by rw [o_nk,←hxd]
   have hsn:wval (l++[z])=wval l+18446744073709551616^i*z:=by rw [o_ta,hl]
   rw [←hsn,←ht,←hut,←Nat.pow_succ] at hround
   have hhk:hi'+k2<18446744073709551616:=by omega
   refine CallS.pu (hmul) (R1 (fs hol (fs hget hki)) ?_);try with_reducible exact tt
   generalize hi'+k2=hk at *
   refine CallS.pu (o_oa lo c 0 l2 k2 hl0 hc (by omega) hll2 hl1) (R1 (fs w1 (fs hol (fs hget hki))) ?_);try with_reducible exact tt
   refine CallS.pu (o_ob x l2 b z nb hx hll2 hb hz (by omega)) (R1 (fs hol (fs hki (fs hset e2))) ?_);try with_reducible exact tt
   refine ⟨i+1,hk,nb,l++[z],⟨hin,hhk,hnb,by simp [hl],o_t9 hsl hz,hround⟩,by omega,by simp,?_⟩
   exact ⟨Subs.refl _,o_ry _ _⟩
  ·simp [hin,hin'] at h
 ·have h2:i=d.length:=by omega
  subst h2
  rw [List.take_length] at hv
  obtain ⟨z,nb,hzb,hz,hnb⟩:∃z nb:Nat,x+18446744073709551616*nb=z+c+b∧z<18446744073709551616∧nb≤1:=by
   by_cases h:c+b≤x
   ·exact ⟨x-c-b,0,by omega,by omega,by omega⟩
   ·exact ⟨x+18446744073709551616-c-b,1,by omega,by omega,by omega⟩
  refine G0 ?_;try with_reducible exact tt
  refine AW.cond rfl (fun h=>?_) (fun h=>?_)
  ·simp at h
  refine AW.exit ?_
  (try (simp -implicitDefEqProofs;try simp (disch:=omega) only [w64,wu64]))
  refine G1 (fs hol (fs hget hki)) ?_;try with_reducible exact tt
  refine CallS.pu (o_ob x c b z nb hx hc hb hz (by omega)) (R1 (fs hol (fs hki hset)) ?_);try with_reducible exact tt
  have hux:wval u=wval (u.take d.length)+18446744073709551616^d.length*x:=by
   rw [hxd,←o_nk,List.take_of_length_le (by omega)]
  obtain ⟨hnb',hR⟩:=o_te (n:=d.length) (by rw [o_ta,hl]) hv hux hzb hnb (o_t9 hsl hz) (by simp [hl]) hus hul
  rw [←hR]
  refine ⟨Sub1.int ?_,Subs.refl _⟩
  rw [hnb']
  split<;>rfl
end
section
open Go.RowKit
set_option maxHeartbeats 4000000 in
theorem o_tx (ws d:List Nat) (k:Nat) (hs:small ws) (hd:small d) (hd1:1≤d.length) (hk:k+d.length+1≤ws.length) (hn:ws.length≤1000000) (htop:d.getD (d.length-1) 0≠0) (hU:wval ((ws.drop k).take (d.length+1))<wval d*18446744073709551616) :
  Eqn Tryz.prog o_iw [.row 0 k (d.length+1),.d (W d)] [⟨181,uW ws⟩] (.d (.int .u64 (wval ((ws.drop k).take (d.length+1))/wval d:Nat))) [⟨181,uW (ovr ws k (wordsN (d.length+1) (wval ((ws.drop k).take (d.length+1))%wval d)))⟩]:=by
 refine Eqn.obj1 o_iy Plain.ok (o_tu _) ?_
 have htk:=fun g hg=>o_tw ws d k g hs hd hk hn hg
 obtain ⟨u,hu⟩:∃u,u=(ws.drop k).take (d.length+1):=⟨_,rfl⟩
 have hul:u.length=d.length+1:=by rw [hu];exact o_t7 (by omega)
 have hus:small u:=by rw [hu];exact (o_t8 hs k).take _
 have hug:∀i,i<d.length+1→u.getD i 0=ws.getD (k+i) 0:=fun i hi=>by rw [hu];exact o_t6 hi
 simp only [takeR,←hu] at htk hU ⊢
 obtain ⟨n,hdn⟩:∃n,d.length=n+1:=⟨d.length-1,by omega⟩
 have hgn:=o_rw (ws:=ws) (j:=k+d.length) (by omega)
 have hgm:=o_rw (ws:=ws) (j:=k+n) (by omega)
 rw [←hug _ (by omega)] at hgn hgm
 have hwl:=o_rv ws
 have hx1:=hus.getD d.length
 have hx0:=hus.getD n
 have hdt:d[n]?=some (d.getD n 0):=by rw [List.getD_eq_getElem?_getD,List.getElem?_eq_getElem (by omega)];rfl
 have hdt2:d[n]'(by omega)=d.getD n 0:=o_o4 (by omega)
 have hdg:=hd.getD n
 rw [hdn,Nat.add_sub_cancel] at htop
 have hUx:wval u/18446744073709551616^n=u.getD d.length 0*18446744073709551616+u.getD n 0:=o_tk hus (by omega) hdn
 have hDt:d.getD n 0*18446744073709551616^n≤wval d:=o_tj (by omega)
 generalize u.getD d.length 0=x1 at *
 generalize u.getD n 0=x0 at *
 generalize hdd:d.getD n 0=dt at *
 have hD0:0<wval d:=Nat.lt_of_lt_of_le (Nat.mul_pos (by omega) (Nat.pow_pos (by decide))) hDt
 have ed:IntKind.i64.wrap ((d.length:Int)-1)=(n:Int):=by rw [w64 (by omega) (by omega)];omega
 have hkd:((k:Int)+d.length).toNat=k+d.length:=by omega
 have hnd:(n:Int)<d.length:=by omega
 have hnd':n<d.length:=by omega
 obtain ⟨g,hg,hgD,hgc⟩:∃g:Nat,g≤18446744073709551615∧wval u/wval d≤g∧(if x1<dt then g=(x1*18446744073709551616+x0)/dt else g=18446744073709551615):=by
  by_cases h:x1<dt
  ·refine ⟨(x1*18446744073709551616+x0)/dt,?_,o_qi (B:=18446744073709551616) (by decide) (Nat.pow_pos (by decide)) hUx hDt (by omega),by rw [if_pos h]⟩
   have:(x1*18446744073709551616+x0)/dt<18446744073709551616:=by
    rw [Nat.div_lt_iff_lt_mul (by omega)]
    have:(x1+1)*18446744073709551616≤dt*18446744073709551616:=Nat.mul_le_mul_right _ h
    omega
   omega
  ·refine ⟨18446744073709551615,by omega,?_,by rw [if_neg h]⟩
   have:wval u/wval d<18446744073709551616:=by rw [Nat.div_lt_iff_lt_mul hD0,Nat.mul_comm];exact hU
   omega
 refine cc (c':=?z52) ?_ ?_
 case refine_1=>cbv<;>exact rfl
 try simp only [W] at htk ⊢
 repeat (first | refine AW.seq ?_ | refine AW.block ?_)
 refine AW.reg mix ?_
 (simp -implicitDefEqProofs;try simp (disch:=omega) only [w64,wu64])
 try refine need.of (by first | omega | kernel_rfl) ?_
 repeat (first | refine AW.seq ?_ | refine AW.block ?_)
 refine AW.reg mix ?_
 (simp -implicitDefEqProofs;try simp (disch:=omega) only [w64,wu64])
 try refine need.of (by first | omega | kernel_rfl) ?_
 repeat (first | refine AW.seq ?_ | refine AW.block ?_)
 refine AW.reg mix ?_
 (simp -implicitDefEqProofs;try simp (disch:=omega) only [w64,wu64])
 try refine need.of (by first | omega | kernel_rfl) ?_
 refine AW.cut 1 [(6,.d (.int .u64 g))] [(0,⟨181,uW ws⟩)] (by simp) (by simp) ?_ ?_
 ·by_cases hlt:x1<dt
  ·rw [if_pos hlt] at hgc
   have hlt':(x1:Int)<dt:=by omega
   refine G1 (fs hwl (fs hgn (fs hgm (fs ed (fs hkd (fs hnd (fs hnd' (fs hdt (fs hdt2 (fs hlt hlt')))))))))) ?_;try with_reducible exact tt
   refine AW.cond rfl (fun h=>?_) (fun h=>?_)
   ·have hdiv:=o_rs x1 x0 dt hlt hx0 hdg
    rw [←hgc] at hdiv
    refine G1 (fs hwl (fs hgn (fs hgm (fs ed (fs hkd (fs hnd (fs hnd' hdt))))))) ?_;try with_reducible exact tt
    simp only [hdt2]
    refine CallS.pu (hdiv) (R0 ?_);try with_reducible exact tt
    exact o_ry _ _
   ·simp [hlt,hlt'] at h
  ·rw [if_neg hlt] at hgc
   have hlt':¬(x1:Int)<dt:=by omega
   refine G1 (fs hwl (fs hgn (fs hgm (fs ed (fs hkd (fs hnd (fs hnd' (fs hdt (fs hdt2 (fs hlt hlt')))))))))) ?_;try with_reducible exact tt
   refine AW.cond rfl (fun h=>?_) (fun h=>?_)
   ·simp [hlt,hlt'] at h
   ·refine AW.skip ?_
    subst hgc
    simp [o_ry]
 clear hgc
 have hDn:wval d<18446744073709551616^d.length:=o_n1 hd
 have hgM:g*wval d≤wval u+18446744073709551616^(d.length+1):=by
  rw [Nat.pow_succ]
  have:g*wval d≤18446744073709551616*18446744073709551616^d.length:=Nat.mul_le_mul (by omega) (by omega)
  rw [Nat.mul_comm _ 18446744073709551616]
  omega
 obtain ⟨t0,l0,ht0,hl0,hsl0,hv0,hE0⟩:∃(t0:Nat) (l0:List Nat),t0≤1∧l0.length=d.length+1∧small l0∧wval l0+g*wval d=wval u+18446744073709551616^(d.length+1)*t0 ∧
   Eqn Tryz.prog o_je [.row 0 k (d.length+1),.d (.sl d.length (d.map fun x:Nat=>D.int .u64 x)),.d (.int .u64 g)] [⟨181,uW ws⟩] (.d (.int .i64 t0)) [⟨181,uW (ovr ws k l0)⟩]:=by
  refine ⟨if wval u<g*wval d then 1 else 0,_,by split<;>omega,o_su _ _,o_sv _ _,o_tf hus hul hgM,?_⟩
  have:=htk g (by omega)
  rw [show ((if wval u<g*wval d then 1 else 0:Nat):Int)=if wval u<g*wval d then 1 else 0 by split<;>rfl]
  exact this
 clear htk hgM
 simp
 refine G0 ?_;try with_reducible exact tt
 refine CallS.o1 0 (hE0) (hO:=o_tu _) (hO':=(o_tu _)) (R0 ?_);try with_reducible exact tt
 refine AW.loopT (α:=Nat×Nat×List Nat) 1 (fun s=>[(7,.d (.int .i64 (s.1:Nat))),(6,.d (.int .u64 (s.2.1:Nat)))]) (fun s=>[(0,⟨181,uW (ovr ws k s.2.2)⟩)]) (fun s=>s.1≤1∧s.2.1≤18446744073709551615∧wval u/wval d≤s.2.1∧s.2.2.length=d.length+1∧small s.2.2∧wval s.2.2+s.2.1*wval d=wval u+18446744073709551616^(d.length+1)*s.1) (fun s=>s.2.1) (t0,g,l0) ?_ ?_ ⟨ht0,hg,hgD,hl0,hsl0,hv0⟩ ?_ ?_ ?_
 ·simp
 ·simp
 ·simp
 ·simp [o_ry]
 clear hE0 hl0 hsl0 hv0 ht0 hg hgD
 rintro ⟨t,g,l⟩ ⟨ht,hg,hgD,hl,hsl,hv⟩
 simp only at ht hg hgD hl hsl hv
 simp
 rcases (by omega:t=0∨t=1) with rfl | rfl
 ·rw [Nat.mul_zero,Nat.add_zero] at hv
  obtain ⟨hq,hr⟩:=o_qk hD0 hgD hv
  have hlw:=o_sy hsl hl hr.symm
  refine G0 ?_;try with_reducible exact tt
  refine AW.cond rfl (fun h=>?_) (fun h=>?_)
  ·simp at h
  refine AW.exit ?_
  (try (simp -implicitDefEqProofs;try simp (disch:=omega) only [w64,wu64]))
  refine G0 ?_;try with_reducible exact tt
  rw [←hlw]
  refine ⟨Sub1.int ?_,Subs.refl _⟩
  rw [←hq];rfl
 ·rw [Nat.mul_one] at hv
  obtain ⟨hg0,hn1,hn2⟩:=o_qj (P:=18446744073709551616^d.length) (by rw [Nat.pow_succ,Nat.mul_comm]) hDn hD0 hg (by rw [←hl];exact o_n1 hsl) hv
  have ew:IntKind.u64.wrap ((g:Int)-1)=((g-1:Nat):Int):=by rw [wu64 (by omega) (by omega)];omega
  refine G1 ew ?_;try with_reducible exact tt
  refine AW.cond rfl (fun h=>?_) (fun h=>?_)
  rotate_left
  ·simp at h
  refine G1 ew ?_;try with_reducible exact tt
  have hwlen:(ovr ws k l).length=ws.length:=o_sz (by omega)
  have hlg:∀j,j<d.length+1→(ovr ws k l).getD (k+j) 0=l.getD j 0:=fun j hj=>o_tg (by omega) (by omega)
  have hws1:small (ovr ws k l):=o_t0 hs hsl
  have hoo:∀r,r.length=d.length+1→ovr (ovr ws k l) k r=ovr ws k r:=fun r hr=>o_t4 (by omega) (by omega)
  refine AW.loopT (α:=Nat×Nat×List Nat) 1 (fun s=>[(53,.d (.int .i64 (s.1:Nat))),(8,.d (.int .u64 (s.2.1:Nat)))]) (fun s=>[(0,⟨181,uW (ovr (ovr ws k l) k s.2.2)⟩)]) (fun s=>s.1≤d.length∧s.2.1≤1∧s.2.2.length=s.1∧small s.2.2∧wval s.2.2+18446744073709551616^s.1*s.2.1=wval (l.take s.1)+wval (d.take s.1)) (fun s=>d.length-s.1) (0,0,[]) ?_ ?_ ⟨Nat.zero_le _,by simp,rfl,o_tb,by simp [wval]⟩ ?_ ?_ ?_
  ·simp
  ·simp
  ·simp
  ·simp [o_ry,o_t1]
  rintro ⟨j,c,r⟩ ⟨hj,hc,hr,hsr,hv2⟩
  simp only at hj hc hr hsr hv2
  simp
  have hol:(uW (ovr (ovr ws k l) k r)).length=ws.length:=by rw [o_rv,o_sz (by omega),hwlen]
  have hget:=o_rw (ws:=ovr (ovr ws k l) k r) (j:=k+j) (by rw [←o_rv,hol];omega)
  have hnx:=o_t2 (ws:=ovr ws k l) (k:=k) (l:=r) (by omega)
  rw [hr] at hnx
  rw [hnx,hlg j (by omega)] at hget
  have hx:=hsl.getD j
  have hset:∀v:Nat,(uW (ovr (ovr ws k l) k r)).set (k+j) (.d (.int .u64 v))=uW (ovr (ovr ws k l) k (r++[v])):=fun v=>by rw [o_rx,←hr,o_t3 (by omega)]
  have hkj:((k:Int)+j).toNat=k+j:=by omega
  obtain ⟨x,hxd⟩:∃x,x=l.getD j 0:=⟨_,rfl⟩
  rw [←hxd] at hget hx
  by_cases hjn:j<d.length
  ·have hjn':(j:Int)<d.length:=by omega
   have hy:d[j]<18446744073709551616:=hd _ (List.getElem_mem _)
   have hyd:d[j]=d.getD j 0:=o_o4 hjn
   have e2:IntKind.i64.wrap ((j:Int)+1)=((j+1:Nat):Int):=by rw [w64 (by omega) (by omega)];omega
   refine G1 (fs hjn hjn') ?_;try with_reducible exact tt
   refine AW.cond rfl (fun h=>?_) (fun h=>?_)
   rotate_left
   ·simp [hjn,hjn'] at h
   clear h
   refine G1 (fs hjn (fs hjn' (fs hol (fs hget hkj)))) ?_;try with_reducible exact tt
   generalize d[j]=y at hy hyd ⊢
   obtain ⟨z,nc,hzc,hz,hnc⟩:∃z nc:Nat,x+y+c=z+18446744073709551616*nc∧z<18446744073709551616∧nc≤1:=⟨(x+y+c)%18446744073709551616,(x+y+c)/18446744073709551616,by omega,by omega,by omega⟩
   have hround:=o_th hv2 hzc
   rw [show wval r+18446744073709551616^j*z=wval (r++[z]) by rw [o_ta,hr],show wval (l.take j)+18446744073709551616^j*x=wval (l.take (j+1)) by rw [o_nk,←hxd],show wval (d.take j)+18446744073709551616^j*y=wval (d.take (j+1)) by rw [o_nk,←hyd],←Nat.pow_succ] at hround
   refine CallS.pu (o_oa x y c z nc hx hy hc hz hzc) (R1 (fs hol (fs hkj (fs hset e2))) ?_);try with_reducible exact tt
   exact ⟨j+1,nc,r++[z],⟨hjn,hnc,by simp [hr],o_t9 hsr hz,hround⟩,by omega,by simp,Subs.refl _,o_ry _ _⟩
  ·have h2:j=d.length:=by omega
   subst h2
   rw [List.take_length] at hv2
   have hlx:wval l=wval (l.take d.length)+18446744073709551616^d.length*x:=by rw [hxd,←o_nk,List.take_of_length_le (by omega)]
   obtain ⟨v,nv,hvc,hvl,hnv⟩:∃v nv:Nat,x+c=v+18446744073709551616*nv∧v<18446744073709551616∧nv≤1:=⟨(x+c)%18446744073709551616,(x+c)/18446744073709551616,by omega,by omega,by omega⟩
   have wv:IntKind.u64.wrap ((x:Int)+c)=(v:Int):=by rw [IntKind.wrap_u64];omega
   have hrv:(r++[v]).length=d.length+1:=by simp [hr]
   have hsum:=o_ti (p:=18446744073709551616^d.length) (wr:=wval r) (c:=c) (x:=x) hv2 hlx hvc
   rw [show wval r+18446744073709551616^d.length*v=wval (r++[v]) by rw [o_ta,hr],←Nat.pow_succ] at hsum
   have hrlt:=o_n1 (o_t9 hsr hvl)
   rw [hrv] at hrlt
   replace hset:=hset v
   rw [hoo _ hrv] at hset
   have hget2:=o_rw (ws:=ovr ws k (r++[v])) (j:=k+d.length) (by rw [o_sz (by omega)];omega)
   rw [o_tg (by omega) (by omega),show (r++[v]).getD d.length 0=v by rw [←hr];simp] at hget2
   refine G0 ?_;try with_reducible exact tt
   refine AW.cond rfl (fun h=>?_) (fun h=>?_)
   ·simp at h
   refine AW.exit ?_
   (try (simp -implicitDefEqProofs;try simp (disch:=omega) only [w64,wu64]))
   have hol2:(uW (ovr ws k (r++[v]))).length=ws.length:=by rw [o_rv,o_sz (by omega)]
   have hsr2:=o_t9 hsr hvl
   generalize hr2:r++[v]=r2 at *
   have hrw:wval r<18446744073709551616^d.length:=by rw [←hr];exact o_n1 hsr
   have hrw2:wval r2=wval r+18446744073709551616^d.length*v:=by rw [←hr2,o_ta,hr]
   by_cases hv0:v=0
   ·subst hv0
    have hnv1:nv=1:=by
     rcases (by omega:nv=0∨nv=1) with rfl | h
     ·exfalso
      rw [Nat.mul_zero,Nat.add_zero] at hsum
      rw [Nat.mul_zero,Nat.add_zero] at hrw2
      have:=(hn2 (by omega)).2
      omega
     ·exact h
    subst hnv1
    rw [Nat.mul_one] at hsum
    obtain ⟨k1,k2,k3,-⟩:=hn1 (by omega)
    simp at hset hget2 wv
    refine G1 (fs hol (fs hget (fs hkj (fs wv (fs hset (fs hget2 hol2)))))) ?_;try with_reducible exact tt
    refine AW.cond rfl (fun h=>?_) (fun h=>?_)
    ·simp at h
    repeat (first | refine AW.seq ?_ | refine AW.block ?_ | (refine AW.reg mix ?_;simp -implicitDefEqProofs;try simp (disch:=omega) only [w64,wu64]) | (refine need.of (by first | omega | kernel_rfl) ?_) | (refine AW.fin ?_;try simp -implicitDefEqProofs))
    (try (simp -implicitDefEqProofs;try simp (disch:=omega) only [w64,wu64]))
    repeat (first | refine AW.seq ?_ | refine AW.block ?_ | (refine AW.reg mix ?_;simp -implicitDefEqProofs;try simp (disch:=omega) only [w64,wu64]) | (refine need.of (by first | omega | kernel_rfl) ?_) | (refine AW.fin ?_;try simp -implicitDefEqProofs))
    refine ⟨0,g-1,r2,⟨by omega,by omega,by omega,hrv,hsr2,?_⟩,by omega,by simp,?_⟩
    ·rw [Nat.mul_zero,Nat.add_zero,←k1];omega
    ·exact ⟨Subs.refl _,o_ry _ _⟩
   ·have hnv0:nv=0:=by omega
    subst hnv0
    rw [Nat.mul_zero,Nat.add_zero] at hsum
    obtain ⟨k1,k2⟩:=hn2 (by omega)
    refine G1 (fs hol (fs hget (fs hkj (fs wv (fs hset (fs hget2 (fs hol2 hv0))))))) ?_;try with_reducible exact tt
    refine AW.cond rfl (fun h=>?_) (fun h=>?_)
    rotate_left
    ·simp [hv0] at h
    repeat (first | refine AW.seq ?_ | refine AW.block ?_ | (refine AW.reg mix ?_;simp -implicitDefEqProofs;try simp (disch:=omega) only [w64,wu64]) | (refine need.of (by first | omega | kernel_rfl) ?_) | (refine AW.fin ?_;try simp -implicitDefEqProofs))
    (try (simp -implicitDefEqProofs;try simp (disch:=omega) only [w64,wu64]))
    repeat (first | refine AW.seq ?_ | refine AW.block ?_ | (refine AW.reg mix ?_;simp -implicitDefEqProofs;try simp (disch:=omega) only [w64,wu64]) | (refine need.of (by first | omega | kernel_rfl) ?_) | (refine AW.fin ?_;try simp -implicitDefEqProofs))
    refine ⟨1,g-1,r2,⟨by omega,by omega,?_,hrv,hsr2,?_⟩,by omega,by simp,?_⟩
    ·exact Nat.div_le_of_le_mul (by rw [Nat.mul_comm];omega)
    ·omega
    ·exact ⟨Subs.refl _,o_ry _ _⟩
end
section
open Go.RowKit
set_option maxHeartbeats 1000000 in
theorem o_ty (A:List Nat) (k:Nat) (hk:k<64) (hs:small A) (hn:A.length≤1000000):Eqn Tryz.prog o_it [.d (W A),.d (.int .i64 k)] [] (.own 0 1 (A.length+1)) [⟨181,uW (movedL k 0 A)⟩]:=by
 refine Eqn.gen [0] o_iv (by simp) (by simp) (by rfl) (by decide) (by simp) (by simp [o_ry]) ?_
 refine cc (c':=?z53) ?_ ?_
 case refine_1=>cbv<;>exact rfl
 try simp only [W]
 refine G0 ?_;try with_reducible exact tt
 rw [show List.replicate (A.length+1) (V.d (.int .u64 0))=cellM k A 0 by rw [cellM,o_ot];simp [U]]
 have hlow:∀i,V.lowl 1 (cellM k A i)=true:=fun i=>o_ox 1 _
 refine AW.loopT (α:=Nat) 1 (fun i=>[(14,.d (.int .i64 (i:Int)))]) (fun i=>[(0,⟨181,cellM k A i⟩)]) (fun i=>i≤A.length) (fun i=>A.length-i) 0 ?_ ?_ (Nat.zero_le _) ?_ ?_ ?_
 ·simp
 ·simp
 ·simp
 ·simp [hlow]
 rintro i hi
 simp
 by_cases h:i=A.length
 ·subst h
  refine G0 ?_;try with_reducible exact tt
  refine AW.cond rfl (fun h=>?_) (fun h=>?_)
  ·simp at h
  refine AW.exit ?_
  (try (simp -implicitDefEqProofs;try simp (disch:=omega) only [w64,wu64]))
  rw [cellM,o_ou]
  repeat (first | refine AW.seq ?_ | refine AW.block ?_ | (refine AW.reg mix ?_;simp -implicitDefEqProofs [uW];try simp (disch:=omega) only [w64,wu64]) | (refine need.of (by first | omega | kernel_rfl) ?_) | (refine AW.fin ?_;try simp -implicitDefEqProofs [uW]))
  rw [show U (movedL k 0 A)=uW (movedL k 0 A) from rfl,o_tt]
  exact Subs.refl _
 ·have hi':i<A.length:=by omega
  have hp:(i:Int)<A.length:=by omega
  obtain ⟨c,y,u,hl,hq,hor,hw,hd,hset⟩:∃c z u:Nat,(cellM k A i).length=A.length+1∧(cellM k A i)[i]?=some (.d (.int .u64 c))∧bits BinOp.or IntKind.u64 (c:Int) (IntKind.u64.wrap ((A[i]:Int)*2^k))=(z:Int) ∧
    True∧(A[i]:Int)/2^(64-k)=(u:Int)∧((cellM k A i).set i (.d (.int .u64 z))).set (i+1) (.d (.int .u64 u))=cellM k A (i+1):=by
   have hl:=o_os k A i hi
   have hc:=o_nf (k:=k) (l:=A.take i) (c:=0) (hs.take i) (Nat.two_pow_pos k)
   have hset:=o_ow k A i hi'
   rw [←o_o4 hi'] at hset
   refine ⟨movedC k 0 (A.take i),A[i]*2^k%18446744073709551616+movedC k 0 (A.take i),A[i]*2^k/18446744073709551616,by simp [cellM,U,hl],?_,?_,trivial,?_,?_⟩
   ·have:=o_ov k A i hi'
    rw [List.getD,List.getElem?_eq_getElem (by omega)] at this
    rw [cellM,U,List.getElem?_map,List.getElem?_eq_getElem (by omega)]
    simp at this
    simp [this]
   ·rw [show IntKind.u64.wrap ((A[i]:Int)*2^k)=((A[i]*2^k%18446744073709551616:Nat):Int) by rw [IntKind.wrap_u64,Int.natCast_emod,Int.natCast_mul,Int.natCast_pow];rfl]
    rw [bits_or_u64_nat _ _ (Nat.lt_of_lt_of_le hc (by rw [show (18446744073709551616:Nat)=2^64 by rfl];exact Nat.pow_le_pow_right (by decide) (by omega))) (Nat.mod_lt _ (by decide)),o_ng hk hc]
   ·rw [o_nh (by omega),Int.natCast_ediv,Int.natCast_pow];rfl
   ·rw [cellM,cellM,←hset,U,U,List.map_set,List.map_set]
  have hn:((64:Int)-k).toNat=64-k:=by omega
  have e1:IntKind.i64.wrap ((i:Int)+1)=(i:Int)+1:=w64 (by omega) (by omega)
  have e2:IntKind.i64.wrap ((64:Int)-k)=(64:Int)-k:=w64 (by omega) (by omega)
  generalize cellM k A i=cm at hl hq hset
  refine G1 (fs hi' hp) ?_;try with_reducible exact tt
  refine AW.cond rfl (fun h=>?_) (fun h=>?_)
  ·clear h
   refine G1 (fs hi' (fs hp (fs hl (fs hq (fs hor (fs e1 (fs e2 (fs hn (fs hd hset))))))))) ?_;try with_reducible exact tt
   exact ⟨i+1,by omega,by omega,by simp [wk],by simp [wkH,hlow]⟩
  ·simp at h

theorem o_tz (n s:Nat) (ds:List D) (ws:List Nat):V.frzs n s ds (uW ws)=uW ws:=by
 rw [o_59,uW,U,List.map_map];rfl
theorem uW_d (ws:List Nat):uW ws=(ws.map fun x:Nat=>D.int .u64 x).map V.d:=by rw [List.map_map];rfl

set_option maxHeartbeats 4000000 in
theorem o_u0 (a b:Nat) (hb:18446744073709551616≤b) (hab:b≤a) (ha:size a≤900000):Eqn Tryz.prog o_hw [.d (.agg [natW a]),.d (.agg [natW b])] [] (.tup [.d (.agg [natW (a/b)]),.d (.agg [natW (a%b)]),.d (.int .i64 0)]) []:=by
 refine Eqn.pure o_hy Plain.ok ?_
 have hba:=o_oq hab
 unfold size at ha hba
 have hsA:=o_nx a
 have hsB:=o_nx b
 have htB:=o_ny b
 have hvA:=o_nw a
 have hvB:=o_nw b
 have hB2:2≤(words b).length:=by
  rcases Nat.lt_or_ge (words b).length 2 with h | h
  ·exfalso
   have:=o_n1 hsB
   rw [hvB] at this
   have h2:18446744073709551616^(words b).length≤18446744073709551616^1:=Nat.pow_le_pow_right (by decide) (by omega)
   omega
  ·exact h
 refine cc (c':=?z54) ?_ ?_
 case refine_1=>cbv<;>exact rfl
 try simp only [natW,W]
 generalize words a=A at *
 generalize words b=Bw at *
 obtain ⟨n,hn⟩:∃n,Bw.length=n+1:=⟨Bw.length-1,by omega⟩
 have htop:=htB n hn
 have htl:=hsB.getD n
 have hget:Bw[n]'(by omega)=Bw.getD n 0:=o_o4 (by omega)
 have hlead:=o_qr (Bw.getD n 0) htl
 have e1:IntKind.i64.wrap ((Bw.length:Int)-1)=(n:Int):=by rw [w64 (by omega) (by omega)];omega
 have hnB:n<Bw.length:=by omega
 have hnB':(n:Int)<Bw.length:=by omega
 generalize Bw.getD n 0=top at *
 obtain ⟨s,hs⟩:∃s,s=64-bitsN top:=⟨_,rfl⟩
 rw [←hs] at hlead
 have hs64:s<64:=by have:=(o_qa (n:=top) (by omega)).2;omega
 have hmB:=o_oy Bw s hs64 hsB (by omega)
 have hmA:=o_ty A s hs64 hsA (by omega)
 simp only [W,o_n7] at hmB
 refine G1 (fs e1 (fs hnB (fs hnB' hget))) ?_;try with_reducible exact tt
 refine CallS.pu (hlead) (R1 (fs e1 (fs hnB (fs hnB' hget))) ?_);try with_reducible exact tt
 refine CallS.pu (hmB) (R1 (fs e1 (fs hnB (fs hnB' hget))) ?_);try with_reducible exact tt
 have hlm:(A.length:Int)+1-Bw.length=((A.length-n:Nat):Int):=by omega
 have hlm2:IntKind.i64.wrap ((A.length:Int)+1-Bw.length)=((A.length-n:Nat):Int):=by rw [w64 (by omega) (by omega),hlm]
 have hlm3:IntKind.i64.wrap (((A.length-n:Nat):Int)-1)=((A.length-n:Nat):Int)-1:=w64 (by omega) (by omega)
 refine CallS.nX (hmA) (hO':=(o_tu _)) (R1 (fs e1 (fs hnB (fs hnB' (fs hget (fs hlm2 hlm3))))) ?_);try with_reducible exact tt
 have hnA:n+1≤A.length:=by omega
 have hbn:18446744073709551616^n≤wval Bw:=by
  have h1:=o_tj (d:=Bw) (n:=n) hnB
  rw [o_o4 hnB] at hget
  rw [hget] at h1
  have:1*18446744073709551616^n≤top*18446744073709551616^n:=Nat.mul_le_mul_right _ (by omega)
  omega
 have hD2:wval Bw*2^s<18446744073709551616^Bw.length:=by
  have h1:=o_nk Bw n
  rw [List.take_of_length_le (by omega)] at h1
  rw [o_o4 hnB] at hget
  rw [hget] at h1
  have h2:=o_nt hsB n
  have h3:top<2^bitsN top:=o_q7 top
  have h4:wval Bw<2^bitsN top*18446744073709551616^n:=by
   have:(top+1)*18446744073709551616^n≤2^bitsN top*18446744073709551616^n:=Nat.mul_le_mul_right _ h3
   rw [Nat.add_mul,Nat.one_mul,Nat.mul_comm top] at this
   omega
  have h5:wval Bw*2^s<2^bitsN top*18446744073709551616^n*2^s:=Nat.mul_lt_mul_of_pos_right h4 (Nat.two_pow_pos s)
  have h6:2^bitsN top*18446744073709551616^n*2^s=18446744073709551616^Bw.length:=by
   have hb64:bitsN top≤64:=o_q8 htl
   rw [Nat.mul_right_comm,←Nat.pow_add,show bitsN top+s=64 by omega,hn,Nat.pow_succ,Nat.mul_comm]
   rfl
  omega
 have hDv:=o_ts hD2
 have hsd:small ((movedL s 0 Bw).take Bw.length):=(o_n9 hs64 hsB (Nat.two_pow_pos s)).take _
 have hdl:((movedL s 0 Bw).take Bw.length).length=n+1:=by rw [List.length_take,o_n7];omega
 have hU0:=o_n8 s A 0
 have hsU:small (movedL s 0 A):=o_n9 hs64 hsA (Nat.two_pow_pos s)
 have hlU:=o_n7 s A 0
 rw [Nat.add_zero] at hU0
 have hp2:=Nat.two_pow_pos s
 have hD0:18446744073709551616^n*2^s≤wval Bw*2^s:=Nat.mul_le_mul_right _ hbn
 have hDpos:0<wval Bw*2^s:=Nat.lt_of_lt_of_le (Nat.mul_pos (Nat.pow_pos (by decide)) hp2) hD0
 simp only [←List.map_take]
 generalize hdd:(movedL s 0 Bw).take Bw.length=d at *
 generalize hUU:movedL s 0 A=u0 at *
 have hdtop:d.getD (d.length-1) 0≠0:=by
  intro h0
  have h1:=o_nk d n
  have he:d.take (n+1)=d:=List.take_of_length_le (by omega)
  rw [he] at h1
  rw [hdl,Nat.add_sub_cancel] at h0
  rw [h0,Nat.mul_zero,Nat.add_zero] at h1
  have h2:=o_nt hsd n
  have h3:18446744073709551616^n*1≤18446744073709551616^n*2^s:=Nat.mul_le_mul_left _ hp2
  omega
 generalize hm:A.length-n=m at *
 have hstart:wval ((u0.drop m).take (n+1))<wval d:=by
  have h1:=o_tm (ws:=u0) m (n+1) (by omega)
  rw [List.take_of_length_le (by omega),hU0] at h1
  have h2:=o_n1 hsA
  have h3:wval A*2^s<18446744073709551616^A.length*2^s:=Nat.mul_lt_mul_of_pos_right h2 hp2
  rw [hDv]
  refine Nat.lt_of_lt_of_le ?_ hD0
  have h4:18446744073709551616^A.length=18446744073709551616^m*18446744073709551616^n:=by rw [←Nat.pow_add];congr 1;omega
  rw [h4,Nat.mul_assoc] at h3
  have h5:18446744073709551616^m*wval ((u0.drop m).take (n+1))<18446744073709551616^m*(18446744073709551616^n*2^s):=by omega
  exact Nat.lt_of_mul_lt_mul_left h5
 have hdlt:wval d<18446744073709551616^(n+1):=by rw [←hdl];exact o_n1 hsd
 have htkall:u0.take (m+(n+1))=u0:=List.take_of_length_le (by omega)
 have hdB:d.length=Bw.length:=by omega
 rw [show List.replicate m (V.d (.int .u64 0))=uW (List.replicate m 0++[]) by simp [uW,U]]
 refine AW.loopT (α:=Nat×List Nat×List Nat) 6 (fun s=>[(12,.d (.int .i64 ((s.1:Int)-1)))]) (fun s=>[(4,⟨181,uW s.2.1⟩),(5,⟨181,uW (List.replicate s.1 0++s.2.2)⟩)]) (fun s=>s.1≤m∧s.2.1.length=A.length+1∧small s.2.1∧s.2.2.length=m-s.1∧small s.2.2∧wval u0=wval (s.2.1.take (s.1+(n+1)))+wval d*(18446744073709551616^s.1*wval s.2.2)∧wval ((s.2.1.drop s.1).take (n+1))<wval d) (fun s=>s.1) (m,u0,[]) ?_ ?_ ⟨Nat.le_refl _,hlU,hsU,by simp,o_tb,by rw [htkall];simp [wval],hstart⟩ ?_ ?_ ?_
 ·simp
 ·simp
 ·simp
 ·simp [o_ry]
 clear hstart hsU hlU
 rintro ⟨kk,ws,q⟩ ⟨hkm,hwl,hws,hql,hsq,hv,hlt⟩
 simp only at hkm hwl hws hql hsq hv hlt
 simp
 cases kk with
 | zero =>
  refine G0 ?_;try with_reducible exact tt
  refine AW.cond rfl (fun h=>?_) (fun h=>?_)
  ·simp at h
  refine AW.exit ?_
  (try (simp -implicitDefEqProofs;try simp (disch:=omega) only [w64,wu64]))
  rw [Nat.zero_add,Nat.pow_zero,Nat.one_mul] at hv
  rw [List.drop_zero] at hlt
  rw [Nat.sub_zero] at hql
  have hdp:0<wval d:=by omega
  have hqv:wval q=wval u0/wval d:=by rw [hv,Nat.add_mul_div_left _ _ hdp,Nat.div_eq_of_lt hlt,Nat.zero_add]
  have hrv:wval (ws.take (n+1))=wval u0%wval d:=by rw [hv,Nat.add_mul_mod_self_left,Nat.mod_eq_of_lt hlt]
  obtain ⟨k1,k2⟩:=o_qh (n:=wval A) (y:=wval Bw) (s:=s)
  rw [hU0,hDv] at hqv hrv
  rw [k1] at hqv
  have ht1:=o_o5 q hsq (by omega)
  have ht2:=o_o5 (ws.take (n+1)) (hws.take _) (by rw [List.length_take];omega)
  have hl2:(ws.take (n+1)).length=n+1:=by rw [List.length_take];omega
  have hsz:size (wval (ws.take (n+1)))≤1000000:=Nat.le_trans (o_ni (o_ny _) (m:=n+1) (by rw [o_nw];have:=o_n1 (hws.take (n+1));rw [hl2] at this;exact this)) (by omega)
  have ht3:=o_r1 (wval (ws.take (n+1))) s hsz (by omega)
  rw [hrv,k2,←hrv] at ht3
  rw [hqv] at ht1
  simp only [natW,W,hql,hl2] at ht1 ht2 ht3
  refine AW.freeze 4 1 ⟨181,uW ws⟩ (ws.map fun x:Nat=>D.int .u64 x) (by rfl) (uW_d ws) ?_
  simp [o_tz]
  refine AW.freeze 5 1 ⟨181,uW q⟩ (q.map fun x:Nat=>D.int .u64 x) (by rfl) (uW_d q) ?_
  have hqt:q.take m=q:=List.take_of_length_le (by omega)
  have hwt:ws.take (A.length+1)=ws:=List.take_of_length_le (by omega)
  have hnAl:(Bw.length:Int)≤(A.length:Int)+1:=by omega
  simp [o_tz,←List.map_take,hqt,hwt]
  refine G1 hnAl ?_;try with_reducible exact tt
  refine CallS.pu (ht1) (R1 hnAl ?_);try with_reducible exact tt
  rw [←List.map_take,hn]
  refine CallS.pu (ht2) (R0 ?_);try with_reducible exact tt
  refine CallS.pu (ht3) (R0 ?_);try with_reducible exact tt
  rw [hvA,hvB]
  exact Sub1.refl _
 | succ k =>
  have hg0:(0:Int)≤k:=by omega
  refine G1 hg0 ?_;try with_reducible exact tt
  refine AW.cond rfl (fun h=>?_) (fun h=>?_)
  rotate_left
  ·simp at h
  have w1:IntKind.i64.wrap ((k:Int)+Bw.length)=(k:Int)+Bw.length:=w64 (by omega) (by omega)
  have w2:IntKind.i64.wrap ((k:Int)+Bw.length+1)=(k:Int)+Bw.length+1:=w64 (by omega) (by omega)
  have w3:((k:Int)+Bw.length+1).toNat-k=Bw.length+1:=by omega
  have w4:IntKind.i64.wrap ((k:Int)-1)=(k:Int)-1:=w64 (by omega) (by omega)
  have hc1:(k:Int)≤(k:Int)+Bw.length+1:=by omega
  have hc2:(k:Int)+Bw.length+1≤(A.length:Int)+1:=by omega
  have hseg:=o_tp (ws:=ws) (k:=k) (m:=n+1) (by omega)
  have hxk:=hws.getD k
  have hS:wval ((ws.drop k).take (d.length+1))<wval d*18446744073709551616:=by
   rw [hdl,hseg];omega
  have hdig:=o_tx ws d k hws hsd (by omega) (by omega) (by omega) hdtop hS
  simp only [W] at hdig
  rw [hdB] at hdig hS
  obtain ⟨S,hSd⟩:∃S,S=wval ((ws.drop k).take (Bw.length+1)):=⟨_,rfl⟩
  have hvs:=o_tm (ws:=ws) k (Bw.length+1) (by omega)
  rw [←hSd] at hdig hS hvs
  rw [show k+1+(n+1)=k+(Bw.length+1) by omega] at hv
  have hround:=o_tl (Bk:=18446744073709551616^k) (S:=S) (Q:=wval q) (D:=wval d) (W1:=wval (ws.take k)) (U0:=wval u0) (BQ:=18446744073709551616^(k+1)*wval q) (by rw [hv,←hvs]) (by rw [Nat.pow_succ])
  have hdp:0<wval d:=by omega
  have hmodl:S%wval d<wval d:=Nat.mod_lt _ hdp
  have hlow:=o_tq (ws:=ws) (k:=k) (n:=Bw.length) (x:=S%wval d) (by omega) (by rw [hn];exact Nat.lt_trans hmodl hdlt)
  have hwn:=o_su (Bw.length+1) (S%wval d)
  have hwlen:(ovr ws k (wordsN (Bw.length+1) (S%wval d))).length=ws.length:=o_sz (by omega)
  have hsm:=o_t0 (k:=k) hws (o_sv (Bw.length+1) (S%wval d))
  have hseg2:=o_tm (ws:=ovr ws k (wordsN (Bw.length+1) (S%wval d))) k Bw.length (by omega)
  rw [o_to (by omega),hlow] at hseg2
  have hqd:S/wval d<18446744073709551616:=by rw [Nat.div_lt_iff_lt_mul hdp,Nat.mul_comm];exact hS
  have hset:(uW (List.replicate (k+1) 0++q)).set k (.d (.int .u64 (S/wval d:Nat)))=uW (List.replicate k 0++(S/wval d)::q):=by rw [o_rx,o_tr]
  have hol:(uW (List.replicate (k+1) 0++q)).length=m:=by rw [o_rv];simp;omega
  generalize ovr ws k (wordsN (Bw.length+1) (S%wval d))=ws' at *
  generalize S/wval d=q0 at *
  refine G1 (fs w1 (fs w2 (fs w3 (fs hg0 (fs hc1 hc2))))) ?_;try with_reducible exact tt
  refine CallS.o1 4 (hdig) (hO:=o_tu _) (hO':=(o_tu _)) (R1 (fs hol (fs hset w4)) ?_);try with_reducible exact tt
  refine ⟨k,ws',q0::q,⟨by omega,by omega,hsm,by simp [hql];omega,fun y hy=>?_,?_,?_⟩,by omega,by simp,⟨Subs.refl _,o_ry _ _⟩,Subs.refl _,o_ry _ _⟩
  ·rcases List.mem_cons.1 hy with rfl | hy
   ·exact hqd
   ·exact hsq y hy
  ·rw [←hn,hseg2];exact hround
  ·rw [←hn,hlow];exact hmodl
end
section
open Go.RowKit
theorem o_u1 (a b:Nat) (ha:size a≤900000) (h0:0<b) (hbs:size b≤900000):Eqn Tryz.prog o_fz [.d (.agg [natW a]),.d (.agg [natW b])] [] (.tup [.d (.agg [natW (a/b)]),.d (.agg [natW (a%b)]),.d (.int .i64 0)]) []:=by
 by_cases hsm:b<18446744073709551616∨a<b
 ·exact o_s6 a b (by omega) h0 hsm (by omega)
 ·have hb1:18446744073709551616≤b:=by omega
  have hab:b≤a:=by omega
  refine Eqn.pure o_g1 (o_om _ _ _) ?_
  have hlong:=o_u0 a b hb1 hab ha
  have hz:(b==0)=false:=by simp;omega
  have hsz:2≤(words b).length:=by
   rcases Nat.lt_or_ge (words b).length 2 with h | h
   ·exfalso
    have:=o_n1 (o_nx b)
    rw [o_nw] at this
    have h2:18446744073709551616^(words b).length≤18446744073709551616^1:=Nat.pow_le_pow_right (by decide) (by omega)
    omega
   ·exact h
  obtain ⟨bn,bl,e',hbn⟩:∃bn bl,natW b = .sl bn bl∧bn≠1:=⟨_,_,rfl,by omega⟩
  have hbn':¬(bn:Int)=1:=by omega
  have hcz:¬cmpZ a b<0:=by rw [o_p3];omega
  refine cc (c':=?z55) ?_ ?_
  case refine_1=>cbv<;>exact rfl
  refine G0 ?_;try with_reducible exact tt
  refine CallS.pu (o_o7 b) (R0 ?_);try with_reducible exact tt
  refine AW.cond rfl (fun h=>?_) (fun h=>?_)
  ·simp [hz] at h
  refine G0 ?_;try with_reducible exact tt
  refine CallS.pu (o_o9 a b (by omega) (by omega)) (R1 hcz ?_);try with_reducible exact tt
  refine AW.cond rfl (fun h=>?_) (fun h=>?_)
  ·simp [hcz] at h
  rw [e'] at hlong
  refine G1 (fs e' (fs hbn hbn')) ?_;try with_reducible exact tt
  refine AW.cond rfl (fun h=>?_) (fun h=>?_)
  ·simp [hbn,hbn'] at h
  ·refine G0 ?_;try with_reducible exact tt
   refine CallS.pu (hlong) (R0 ?_);try with_reducible exact tt

theorem o_u2 (a b:Nat) (ha:size a≤900000) (hb:size b≤900000):Eqn Tryz.prog o_fw [.d (.agg [natW a]),.d (.agg [natW b])] [] (.d (.agg [natW (Nat.gcd a b)])) []:=by
 refine Eqn.pure o_fy (o_5e _) ?_
 refine cc (c':=?z56) ?_ ?_
 case refine_1=>cbv<;>exact rfl
 refine G0 ?_;try with_reducible exact tt
 refine AW.loopT (α:=Nat×Nat) 3 (fun _=>[]) (fun p=>[(0,⟨43,[.d (natW p.1)]⟩),(1,⟨43,[.d (natW p.2)]⟩)]) (fun p=>size p.1≤900000∧size p.2≤900000∧Nat.gcd p.1 p.2=Nat.gcd a b) (fun p=>p.2) (a,b) ?_ ?_ ⟨ha,hb,rfl⟩ ?_ ?_ ?_
 ·simp
 ·simp
 ·simp
 ·simp
 rintro ⟨x,y⟩ ⟨hx,hy,hg⟩
 simp only at hx hy hg
 simp
 refine G0 ?_;try with_reducible exact tt
 refine CallS.pu (o_o7 y) (R0 ?_);try with_reducible exact tt
 by_cases h0:y=0
 ·subst h0
  rw [Nat.gcd_zero_right] at hg
  subst hg
  refine AW.cond rfl (fun h=>?_) (fun h=>?_)
  ·simp at h
  refine AW.exit ?_
  (try (simp -implicitDefEqProofs;try simp (disch:=omega) only [w64,wu64]))
  refine G0 ?_;try with_reducible exact tt
  refine CallS.pu (o_o6 (words (Nat.gcd a b)) (o_nx _) (by unfold size at hx;omega)) (R0 ?_);try with_reducible exact tt
  refine Sub1.of ?_
  rw [o_nw]
 ·have hy0:0<y:=by omega
  refine AW.cond rfl (fun h=>?_) (fun h=>?_)
  ·refine G0 ?_;try with_reducible exact tt
   refine CallS.pu (o_u1 x y hx hy0 hy) (R0 ?_);try with_reducible exact tt
   refine ⟨y,x%y,⟨hy,Nat.le_trans (o_oq (Nat.mod_le x y)) hx,?_⟩,Nat.mod_lt _ hy0,Subs.refl _,?_⟩
   ·rw [←hg,Nat.gcd_comm x y,Nat.gcd_rec y x,Nat.gcd_comm]
   ·exact Subs.refl _
  ·simp at h
   exact absurd h h0
end
section
theorem o_u3 (z:Int) (d:Nat) (hd:0<d):(mkRat z d).num.natAbs=z.natAbs/Nat.gcd z.natAbs d∧(mkRat z d).den=d/Nat.gcd z.natAbs d∧((mkRat z d).num<0↔z<0):=by
 have hg:0<Nat.gcd z.natAbs d:=Nat.gcd_pos_of_pos_right _ hd
 rw [Rat.mkRat_def,dif_neg (by omega),Rat.normalize_eq]
 have hdv:((Nat.gcd z.natAbs d:Nat):Int)∣z:=Int.ofNat_dvd_left.2 (Nat.gcd_dvd_left _ _)
 refine ⟨?_,rfl,?_⟩
 ·show (z/((Nat.gcd z.natAbs d:Nat):Int)).natAbs=_
  rw [Int.natAbs_ediv_of_dvd hdv,Int.natAbs_natCast]
 ·show z/((Nat.gcd z.natAbs d:Nat):Int)<0↔z<0
  obtain ⟨k,hk⟩:=hdv
  have hg':0<((Nat.gcd z.natAbs d:Nat):Int):=by omega
  generalize ((Nat.gcd z.natAbs d:Nat):Int)=g at *
  rw [hk,Int.mul_ediv_cancel_left _ (by omega)]
  constructor
  ·intro h;exact Int.mul_neg_of_pos_of_neg hg' h
  ·intro h
   rcases Int.lt_or_le k 0 with h1 | h1
   ·exact h1
   ·have:=Int.mul_nonneg (Int.le_of_lt hg') h1;omega
theorem o_u4 (x y:Rat):x+y=mkRat (x.num*y.den+y.num*x.den) (x.den*y.den):=Rat.add_def' x y
theorem o_u5 (x y:Rat):x*y=mkRat (x.num*y.num) (x.den*y.den):=Rat.mul_def' x y
theorem o_u6 (x y:Rat):x<y↔x.num*y.den<y.num*x.den:=Rat.lt_iff x y
end
section
open Go.RowKit
def wD (z:Int):D:=.agg [natW z.natAbs,.bool (decide (z<0))]
def rD (q:Rat):D:=.agg [natW q.num.natAbs,.bool (decide (q.num<0)),natW (q.den-1)]

theorem o_u7 (a b:Nat):size (a*b)≤size a+size b:=by
 refine o_ni (o_ny _) ?_
 rw [o_nw,Nat.pow_add]
 have ha:=o_n1 (o_nx a)
 have hb:=o_n1 (o_nx b)
 rw [o_nw] at ha hb
 unfold size
 exact Nat.mul_lt_mul'' ha hb
theorem o_u8 (a b:Nat):size (a+b)≤max (size a) (size b)+1:=by
 refine o_ni (o_ny _) ?_
 rw [o_nw,Nat.pow_succ]
 have ha:=o_n1 (o_nx a)
 have hb:=o_n1 (o_nx b)
 rw [o_nw] at ha hb
 have h1:18446744073709551616^(words a).length≤18446744073709551616^max (size a) (size b):=Nat.pow_le_pow_right (by decide) (Nat.le_max_left _ _)
 have h2:18446744073709551616^(words b).length≤18446744073709551616^max (size a) (size b):=Nat.pow_le_pow_right (by decide) (Nat.le_max_right _ _)
 omega

theorem o_u9 (m n:Nat) (hm:size m≤1000000) (hn:size n≤1000000) (hlt:m<n):Eqn Tryz.prog o_g2 [.d (.agg [natW m]),.d (.agg [natW n])] [] (.tup [.d (.agg [.nilsl]),.d (.int .i64 2)]) []:=by
 refine Eqn.pure o_g4 Plain.ok ?_
 have hc:=o_o9 m n hm hn
 have hlt':cmpZ m n<0:=o_p3.2 hlt
 refine cc (c':=?z57) ?_ ?_
 case refine_1=>cbv<;>exact rfl
 refine G0 ?_;try with_reducible exact tt
 refine CallS.pu (hc) (R1 hlt' ?_);try with_reducible exact tt
 refine AW.cond rfl (fun h=>?_) (fun h=>?_)
 ·refine G0 ?_;try with_reducible exact tt
 ·simp [hlt'] at h

theorem o_ua (s:Bool) (a:Nat):Eqn Tryz.prog o_cj [.d (.bool s),.d (.agg [natW a])] [] (.d (.agg [natW a,.bool (s&&decide (a≠0))])) []:=by
 refine Eqn.pure o_cl Plain.ok ?_
 have hz:=o_o7 a
 refine cc (c':=?z58) ?_ ?_
 case refine_1=>cbv<;>exact rfl
 cases s with
 | true =>
  refine G0 ?_;try with_reducible exact tt
  refine CallS.pu (hz) (R0 ?_);try with_reducible exact tt
  refine Sub1.of ?_
  simp
  cases a<;>rfl
 | false =>
  refine G0 ?_;try with_reducible exact tt
theorem o_ub (s:Bool) (a:Nat) (z:Int) (hz:z=if s then -(a:Int) else a):Eqn Tryz.prog o_cj [.d (.bool s),.d (.agg [natW a])] [] (.d (wD z)) []:=by
 have h:=o_ua s a
 have e:D.agg [natW a,.bool (s&&decide (a≠0))]=wD z:=by
  subst hz
  unfold wD
  cases s with
  | true =>
   simp only [if_true,Int.natAbs_neg,Int.natAbs_natCast,Bool.true_and]
   congr 4
   rw [decide_eq_decide];omega
  | false =>
   simp only [Bool.false_and,Int.natAbs_natCast,Bool.false_eq_true,if_false]
   congr 4
 rw [e] at h
 exact h
theorem o_uc (z:Int):Eqn Tryz.prog o_ca [.d (wD z)] [] (.d (.agg [natW z.natAbs])) []:=o_pa _ _
theorem o_ud (z:Int):Eqn Tryz.prog o_cm [.d (wD z)] [] (.d (.bool (decide (z<0)))) []:=o_pb _ _

theorem o_ue (x y:Int) (hx:size x.natAbs≤400000) (hy:size y.natAbs≤400000):Eqn Tryz.prog o_ag [.d (wD x),.d (wD y)] [] (.d (wD (x*y))) []:=by
 refine Eqn.pure o_ai (o_5e _) ?_
 have hm:=o_s0 x.natAbs y.natAbs (by omega) (by omega)
 have hk:=fun s h=>o_ub s (x.natAbs*y.natAbs) (x*y) h
 refine cc (c':=?z59) ?_ ?_
 case refine_1=>cbv<;>exact rfl
 try simp only [wD] at hk ⊢
 refine G0 ?_;try with_reducible exact tt
 refine CallS.pu (hm) (R0 ?_);try with_reducible exact tt
 have e:x*y=if (decide (x<0) != decide (y<0))=true then -((x.natAbs*y.natAbs:Nat):Int) else ((x.natAbs*y.natAbs:Nat):Int):=by
  rw [Int.natCast_mul]
  by_cases h1:x<0<;>by_cases h2:y<0<;>simp only [h1,h2,decide_true,decide_false]
  ·rw [if_neg (by decide),Int.ofNat_natAbs_of_nonpos (by omega),Int.ofNat_natAbs_of_nonpos (by omega),Int.neg_mul_neg]
  ·rw [if_pos (by decide),Int.ofNat_natAbs_of_nonpos (by omega),Int.natAbs_of_nonneg (by omega),Int.neg_mul,Int.neg_neg]
  ·rw [if_pos (by decide),Int.ofNat_natAbs_of_nonpos (a:=y) (by omega),Int.natAbs_of_nonneg (by omega),Int.mul_neg,Int.neg_neg]
  ·rw [if_neg (by decide),Int.natAbs_of_nonneg (by omega),Int.natAbs_of_nonneg (by omega)]
 replace hk:=hk _ e
 refine CallS.pu (hk) (R0 ?_);try with_reducible exact tt

theorem o_uf (x:Int):Eqn Tryz.prog o_ib [.d (wD x)] [] (.d (wD (-x))) []:=by
 refine Eqn.pure o_id (o_5e _) ?_
 have hk:=o_ub (!decide (x<0)) x.natAbs (-x) (by
  by_cases h:x<0
  ·simp only [h,decide_true,Bool.not_true,Bool.false_eq_true,if_false];omega
  ·simp only [h,decide_false,Bool.not_false,if_true];omega)
 refine cc (c':=?z60) ?_ ?_
 case refine_1=>cbv<;>exact rfl
 try simp only [wD] at hk ⊢
 refine G0 ?_;try with_reducible exact tt
 refine CallS.pu (hk) (R0 ?_);try with_reducible exact tt

theorem o_ug (x y:Int) (hx:size x.natAbs≤400000) (hy:size y.natAbs≤400000):Eqn Tryz.prog o_et [.d (wD x),.d (wD y)] [] (.d (wD (x+y))) []:=by
 refine Eqn.pure o_ev (o_5e _) ?_
 by_cases hs:decide (x<0)=decide (y<0)
 ·have ha:=o_on x.natAbs y.natAbs (by omega) (by omega)
  have hk:=o_ub (decide (x<0)) (x.natAbs+y.natAbs) (x+y) (by
   rw [decide_eq_decide] at hs
   by_cases h:x<0
   ·rw [if_pos (by simpa using h)];omega
   ·rw [if_neg (by simpa using h)];omega)
  refine cc (c':=?z61) ?_ ?_
  case refine_1=>cbv<;>exact rfl
  try simp only [wD] at hk ⊢
  generalize decide (x<0)=sx at *
  generalize decide (y<0)=sy at *
  subst hs
  refine G0 ?_;try with_reducible exact tt
  refine AW.cond rfl (fun h=>?_) (fun h=>?_)
  ·refine G0 ?_;try with_reducible exact tt
   refine CallS.pu (ha) (R0 ?_);try with_reducible exact tt
   refine CallS.pu (hk) (R0 ?_);try with_reducible exact tt
  ·simp at h
 ·have hs':¬(x<0↔y<0):=fun h=>hs (decide_eq_decide.2 h)
  by_cases hle:y.natAbs≤x.natAbs
  ·have ha:=o_or x.natAbs y.natAbs (by omega) hle
   have hk:=o_ub (decide (x<0)) (x.natAbs-y.natAbs) (x+y) (by
    by_cases h:x<0
    ·rw [if_pos (by simpa using h)];omega
    ·rw [if_neg (by simpa using h)];omega)
   refine cc (c':=?z62) ?_ ?_
   case refine_1=>cbv<;>exact rfl
   try simp only [wD] at hk ⊢
   generalize decide (x<0)=sx at *
   generalize decide (y<0)=sy at *
   have hs2:(sx==sy)=false:=by simpa using hs
   refine G1 (fs hs2 hs) ?_;try with_reducible exact tt
   refine AW.cond rfl (fun h=>?_) (fun h=>?_)
   ·simp [hs2,hs] at h
   ·refine G0 ?_;try with_reducible exact tt
    refine CallS.pu (ha) (R0 ?_);try with_reducible exact tt
    refine AW.cond rfl (fun h=>?_) (fun h=>?_)
    ·refine G0 ?_;try with_reducible exact tt
     refine CallS.pu (hk) (R0 ?_);try with_reducible exact tt
    ·simp at h
  ·have hb:=o_u9 x.natAbs y.natAbs (by omega) (by omega) (by omega)
   have ha:=o_or y.natAbs x.natAbs (by omega) (by omega)
   have hk:=o_ub (decide (y<0)) (y.natAbs-x.natAbs) (x+y) (by
    by_cases h:y<0
    ·rw [if_pos (by simpa using h)];omega
    ·rw [if_neg (by simpa using h)];omega)
   refine cc (c':=?z63) ?_ ?_
   case refine_1=>cbv<;>exact rfl
   try simp only [wD] at hk ⊢
   generalize decide (x<0)=sx at *
   generalize decide (y<0)=sy at *
   have hs2:(sx==sy)=false:=by simpa using hs
   refine G1 (fs hs2 hs) ?_;try with_reducible exact tt
   refine AW.cond rfl (fun h=>?_) (fun h=>?_)
   ·simp [hs2,hs] at h
   ·refine G0 ?_;try with_reducible exact tt
    refine CallS.pu (hb) (R0 ?_);try with_reducible exact tt
    refine AW.cond rfl (fun h=>?_) (fun h=>?_)
    ·simp at h
    ·refine G0 ?_;try with_reducible exact tt
     refine CallS.pu (ha) (R0 ?_);try with_reducible exact tt
     refine CallS.pu (hk) (R0 ?_);try with_reducible exact tt

def cmpI (x y:Int):Int:=if x<y then -1 else if y<x then 1 else 0
theorem o_uh (x y:Int) (hx:size x.natAbs≤900000) (hy:size y.natAbs≤900000):Eqn Tryz.prog o_ad [.d (wD x),.d (wD y)] [] (.d (.int .i64 (cmpI x y))) []:=by
 refine Eqn.pure o_af (o_5e _) ?_
 have h1:=o_o9 y.natAbs x.natAbs (by omega) (by omega)
 have h2:=o_o9 x.natAbs y.natAbs (by omega) (by omega)
 refine cc (c':=?z64) ?_ ?_
 case refine_1=>cbv<;>exact rfl
 try simp only [wD]
 by_cases hx0:x<0<;>by_cases hy0:y<0
 ·have e:cmpI x y=cmpZ y.natAbs x.natAbs:=by
   unfold cmpI cmpZ
   split<;>split<;>first | omega | (split<;>omega)
  rw [←e] at h1
  simp only [hx0,hy0,decide_true,decide_false]
  refine G0 ?_;try with_reducible exact tt
  refine AW.cond rfl (fun h=>?_) (fun h=>?_)
  ·refine G0 ?_;try with_reducible exact tt
   refine CallS.pu (h1) (R0 ?_);try with_reducible exact tt
  ·simp at h
 ·have e:cmpI x y = -1:=by unfold cmpI;rw [if_pos (by omega)]
  rw [e]
  simp only [hx0,hy0,decide_true,decide_false]
  refine G0 ?_;try with_reducible exact tt
  refine AW.cond rfl (fun h=>?_) (fun h=>?_)
  ·simp at h
  refine G0 ?_;try with_reducible exact tt
  refine AW.cond rfl (fun h=>?_) (fun h=>?_)
  ·refine G0 ?_;try with_reducible exact tt
  ·simp at h
 ·have e:cmpI x y=1:=by unfold cmpI;rw [if_neg (by omega),if_pos (by omega)]
  rw [e]
  simp only [hx0,hy0,decide_true,decide_false]
  refine G0 ?_;try with_reducible exact tt
  refine AW.cond rfl (fun h=>?_) (fun h=>?_)
  ·simp at h
  refine G0 ?_;try with_reducible exact tt
  refine AW.cond rfl (fun h=>?_) (fun h=>?_)
  ·simp at h
  refine G0 ?_;try with_reducible exact tt
  refine AW.cond rfl (fun h=>?_) (fun h=>?_)
  ·refine G0 ?_;try with_reducible exact tt
  ·simp at h
 ·have e:cmpI x y=cmpZ x.natAbs y.natAbs:=by
   unfold cmpI cmpZ
   split<;>split<;>first | omega | (split<;>omega)
  rw [←e] at h2
  simp only [hx0,hy0,decide_true,decide_false]
  refine G0 ?_;try with_reducible exact tt
  refine AW.cond rfl (fun h=>?_) (fun h=>?_)
  ·simp at h
  refine G0 ?_;try with_reducible exact tt
  refine AW.cond rfl (fun h=>?_) (fun h=>?_)
  ·simp at h
  refine G0 ?_;try with_reducible exact tt
  refine AW.cond rfl (fun h=>?_) (fun h=>?_)
  ·simp at h
  refine G0 ?_;try with_reducible exact tt
  refine CallS.pu (h2) (R0 ?_);try with_reducible exact tt
end
section
open Go.RowKit
theorem o_ui (z:Int) (d:Nat) (hd:0<d) (hz:size z.natAbs≤900000) (hds:size d≤900000):Eqn Tryz.prog o_cg [.d (wD z),.d (.agg [natW d])] [] (.d (rD (mkRat z d))) []:=by
 refine Eqn.pure o_ci (o_5e _) ?_
 obtain ⟨p1,p2,p3⟩:=o_u3 z d hd
 have hg0:0<Nat.gcd z.natAbs d:=Nat.gcd_pos_of_pos_right _ hd
 have hgs:size (Nat.gcd z.natAbs d)≤900000:=Nat.le_trans (o_oq (Nat.gcd_le_right _ hd)) hds
 have h1:=o_u2 z.natAbs d hz hds
 have h2:=o_u1 z.natAbs (Nat.gcd z.natAbs d) hz hg0 hgs
 have h3:=o_u1 d (Nat.gcd z.natAbs d) hds hg0 hgs
 have hdp:0<d/Nat.gcd z.natAbs d:=Nat.div_pos (Nat.gcd_le_right _ hd) hg0
 have hdq:size (d/Nat.gcd z.natAbs d)≤900000:=Nat.le_trans (o_oq (Nat.div_le_self _ _)) hds
 have h4:=o_or (d/Nat.gcd z.natAbs d) 1 (by omega) hdp
 have hab:=o_uc z
 have hng:=o_ud z
 have hk:=o_ua (decide (z<0)) (z.natAbs/Nat.gcd z.natAbs d)
 have hsg:(decide (z<0)&&decide (z.natAbs/Nat.gcd z.natAbs d≠0))=decide ((mkRat z d).num<0):=by
  rw [Bool.eq_iff_iff]
  simp only [Bool.and_eq_true,decide_eq_true_eq,p3]
  rw [←p1]
  constructor
  ·intro h;exact h.1
  ·intro h
   have:=p3.2 h
   exact ⟨h,by omega⟩
 rw [hsg,←p1] at hk
 rw [←p1] at h2
 rw [←p2] at h3 h4
 refine cc (c':=?z65) ?_ ?_
 case refine_1=>cbv<;>exact rfl
 try simp only [rD,wD] at hab hng ⊢
 refine G0 ?_;try with_reducible exact tt
 refine CallS.pu (hab) (R0 ?_);try with_reducible exact tt
 refine CallS.pu (h1) (R0 ?_);try with_reducible exact tt
 refine CallS.pu (hab) (R0 ?_);try with_reducible exact tt
 refine CallS.pu (h2) (R0 ?_);try with_reducible exact tt
 refine CallS.pu (h3) (R0 ?_);try with_reducible exact tt
 refine CallS.pf 8 1 ⟨181,_⟩ [.int .u64 (1:Nat)] (o_o6 [1] (o_p2 (by omega)) (by simp)) (by first | rfl | (simp;done)) (R0 ?_);try with_reducible exact tt
 refine CallS.pu (h4) (R0 ?_);try with_reducible exact tt
 refine CallS.pu (hng) (R0 ?_);try with_reducible exact tt
 refine CallS.pu (hk) (R0 ?_);try with_reducible exact tt

theorem o_uj (q:Rat) (h:size q.den≤900000):Eqn Tryz.prog o_cy [.d (rD q)] [] (.d (.agg [natW q.den])) []:=by
 have hp:=q.den_pos
 have:=o_pd q.num.natAbs (q.den-1) (decide (q.num<0)) (Nat.le_trans (o_oq (Nat.sub_le _ _)) (by omega))
 rw [show q.den-1+1=q.den by omega] at this
 exact this
theorem o_uk (q:Rat) (h:size q.den≤900000):Eqn Tryz.prog o_aj [.d (rD q)] [] (.d (wD q.den)) []:=by
 refine Eqn.pure o_al (o_5e _) ?_
 have h1:=o_uj q h
 have h2:=o_ub false q.den (q.den:Int) rfl
 refine cc (c':=?z66) ?_ ?_
 case refine_1=>cbv<;>exact rfl
 try simp only [rD,wD] at h1 h2 ⊢
 refine G0 ?_;try with_reducible exact tt
 refine CallS.pu (h1) (R0 ?_);try with_reducible exact tt
 refine CallS.pu (h2) (R0 ?_);try with_reducible exact tt

def RS (q:Rat) (N:Nat):Prop:=size q.num.natAbs≤N∧size q.den≤N
theorem RS.le {q:Rat} {N M:Nat} (h:RS q N) (hm:N≤M):RS q M:=⟨Nat.le_trans h.1 hm,Nat.le_trans h.2 hm⟩
theorem RS.mk' {z:Int} {d N:Nat} (hd:0<d) (h1:size z.natAbs≤N) (h2:size d≤N):RS (mkRat z d) N:=by
 obtain ⟨p1,p2,-⟩:=o_u3 z d hd
 refine ⟨?_,?_⟩
 ·rw [p1];exact Nat.le_trans (o_oq (Nat.div_le_self _ _)) h1
 ·rw [p2];exact Nat.le_trans (o_oq (Nat.div_le_self _ _)) h2
theorem RS.mul {x y:Rat} {N M:Nat} (hx:RS x N) (hy:RS y M):RS (x*y) (N+M):=by
 rw [o_u5]
 refine RS.mk' (Nat.mul_pos x.den_pos y.den_pos) ?_ ?_
 ·rw [Int.natAbs_mul];have:=o_u7 x.num.natAbs y.num.natAbs;have:=hx.1;have:=hy.1;omega
 ·have:=o_u7 x.den y.den;have:=hx.2;have:=hy.2;omega
theorem RS.add {x y:Rat} {N M:Nat} (hx:RS x N) (hy:RS y M):RS (x+y) (N+M+1):=by
 rw [o_u4]
 refine RS.mk' (Nat.mul_pos x.den_pos y.den_pos) ?_ ?_
 ·have h1:=o_oq (Int.natAbs_add_le (x.num*y.den) (y.num*x.den))
  have h2:=o_u8 (x.num*y.den).natAbs (y.num*x.den).natAbs
  rw [Int.natAbs_mul,Int.natAbs_mul,Int.natAbs_natCast,Int.natAbs_natCast] at *
  have h3:=o_u7 x.num.natAbs y.den
  have h4:=o_u7 y.num.natAbs x.den
  have:=hx.1;have:=hy.1;have:=hx.2;have:=hy.2
  omega
 ·have:=o_u7 x.den y.den;have:=hx.2;have:=hy.2;omega
theorem RS.neg {x:Rat} {N:Nat} (hx:RS x N):RS (-x) N:=by
 refine ⟨?_,?_⟩
 ·rw [Rat.neg_num,Int.natAbs_neg];exact hx.1
 ·rw [Rat.neg_den];exact hx.2
theorem RS.sub {x y:Rat} {N M:Nat} (hx:RS x N) (hy:RS y M):RS (x-y) (N+M+1):=by
 rw [Rat.sub_eq_add_neg];exact hx.add hy.neg

theorem o_ul (x y:Rat) (hx:RS x 100000) (hy:RS y 100000):Eqn Tryz.prog o_b1 [.d (rD x),.d (rD y)] [] (.d (rD (x*y))) []:=by
 refine Eqn.pure o_b3 (o_5e _) ?_
 have h1:=o_ue x.num y.num (by have:=hx.1;omega) (by have:=hy.1;omega)
 have h2:=o_uj x (by have:=hx.2;omega)
 have h3:=o_uj y (by have:=hy.2;omega)
 have h4:=o_s0 x.den y.den (by have:=hx.2;omega) (by have:=hy.2;omega)
 have h5:=o_ui (x.num*y.num) (x.den*y.den) (Nat.mul_pos x.den_pos y.den_pos) (by rw [Int.natAbs_mul];have:=o_u7 x.num.natAbs y.num.natAbs;have:=hx.1;have:=hy.1;omega) (by have:=o_u7 x.den y.den;have:=hx.2;have:=hy.2;omega)
 rw [←o_u5] at h5
 refine cc (c':=?z67) ?_ ?_
 case refine_1=>cbv<;>exact rfl
 try simp only [rD,wD] at h1 h2 h3 h5 ⊢
 refine G0 ?_;try with_reducible exact tt
 refine CallS.pu (h1) (R0 ?_);try with_reducible exact tt
 refine CallS.pu (h2) (R0 ?_);try with_reducible exact tt
 refine CallS.pu (h3) (R0 ?_);try with_reducible exact tt
 refine CallS.pu (h4) (R0 ?_);try with_reducible exact tt
 refine CallS.pu (h5) (R0 ?_);try with_reducible exact tt

theorem o_um (x y:Rat) (hx:RS x 100000) (hy:RS y 100000):Eqn Tryz.prog o_aa [.d (rD x),.d (rD y)] [] (.d (rD (x+y))) []:=by
 refine Eqn.pure o_ac (o_5e _) ?_
 have x1:=hx.1;have x2:=hx.2;have y1:=hy.1;have y2:=hy.2
 have s1:=o_u7 x.num.natAbs y.den
 have s2:=o_u7 y.num.natAbs x.den
 have e1:(x.num*(y.den:Int)).natAbs=x.num.natAbs*y.den:=by rw [Int.natAbs_mul,Int.natAbs_natCast]
 have e2:(y.num*(x.den:Int)).natAbs=y.num.natAbs*x.den:=by rw [Int.natAbs_mul,Int.natAbs_natCast]
 have h1:=o_ue x.num y.den (by omega) (by rw [Int.natAbs_natCast];omega)
 have h1':=o_ue y.num x.den (by omega) (by rw [Int.natAbs_natCast];omega)
 have h2:=o_uj x (by omega)
 have h3:=o_uj y (by omega)
 have h2':=o_uk x (by omega)
 have h3':=o_uk y (by omega)
 have h4:=o_s0 x.den y.den (by omega) (by omega)
 have h6:=o_ug (x.num*y.den) (y.num*x.den) (by rw [e1];omega) (by rw [e2];omega)
 have h5:=o_ui (x.num*y.den+y.num*x.den) (x.den*y.den) (Nat.mul_pos x.den_pos y.den_pos) (by
  have h1:=o_oq (Int.natAbs_add_le (x.num*y.den) (y.num*x.den))
  have h2:=o_u8 (x.num*y.den).natAbs (y.num*x.den).natAbs
  rw [e1,e2] at *
  omega) (by have:=o_u7 x.den y.den;omega)
 rw [←o_u4] at h5
 refine cc (c':=?z68) ?_ ?_
 case refine_1=>cbv<;>exact rfl
 try simp only [rD] at h2 h3 h2' h3' h5 ⊢
 generalize hz1:x.num*(y.den:Int)=z1 at *
 generalize hz2:y.num*(x.den:Int)=z2 at *
 simp only [wD] at h1 h1' h2' h3' h5 h6
 refine G0 ?_;try with_reducible exact tt
 refine CallS.pu (h3') (R0 ?_);try with_reducible exact tt
 refine CallS.pu (h1) (R0 ?_);try with_reducible exact tt
 refine CallS.pu (h2') (R0 ?_);try with_reducible exact tt
 refine CallS.pu (h1') (R0 ?_);try with_reducible exact tt
 refine CallS.pu (h6) (R0 ?_);try with_reducible exact tt
 refine CallS.pu (h2) (R0 ?_);try with_reducible exact tt
 refine CallS.pu (h3) (R0 ?_);try with_reducible exact tt
 refine CallS.pu (h4) (R0 ?_);try with_reducible exact tt
 refine CallS.pu (h5) (R0 ?_);try with_reducible exact tt

theorem o_un (x y:Rat) (hx:RS x 100000) (hy:RS y 100000):Eqn Tryz.prog o_gq [.d (rD x),.d (rD y)] [] (.d (rD (x-y))) []:=by
 refine Eqn.pure o_gs (o_5e _) ?_
 have h1:=o_uf y.num
 have h2:=o_um x (-y) hx hy.neg
 rw [←Rat.sub_eq_add_neg] at h2
 refine cc (c':=?z69) ?_ ?_
 case refine_1=>cbv<;>exact rfl
 try simp only [rD,wD,Rat.neg_num,Rat.neg_den] at h1 h2 ⊢
 obtain ⟨w,hw⟩:∃w,D.bool (decide (-y.num<0))=w:=⟨_,rfl⟩
 obtain ⟨u,hu⟩:∃u,natW (-y.num).natAbs=u:=⟨_,rfl⟩
 rw [hu,hw] at h1 h2
 clear hu hw
 refine G0 ?_;try with_reducible exact tt
 refine CallS.pu (h1) (R0 ?_);try with_reducible exact tt
 refine CallS.pu (h2) (R0 ?_);try with_reducible exact tt

def cmpQ (x y:Rat):Int:=if x<y then -1 else if y<x then 1 else 0
theorem o_uo (x y:Rat) (hx:RS x 100000) (hy:RS y 100000):Eqn Tryz.prog o_7p [.d (rD x),.d (rD y)] [] (.d (.int .i64 (cmpQ x y))) []:=by
 refine Eqn.pure o_7r (o_5e _) ?_
 have x1:=hx.1;have x2:=hx.2;have y1:=hy.1;have y2:=hy.2
 have s1:=o_u7 x.num.natAbs y.den
 have s2:=o_u7 y.num.natAbs x.den
 have e1:(x.num*(y.den:Int)).natAbs=x.num.natAbs*y.den:=by rw [Int.natAbs_mul,Int.natAbs_natCast]
 have e2:(y.num*(x.den:Int)).natAbs=y.num.natAbs*x.den:=by rw [Int.natAbs_mul,Int.natAbs_natCast]
 have h1:=o_ue x.num y.den (by omega) (by rw [Int.natAbs_natCast];omega)
 have h1':=o_ue y.num x.den (by omega) (by rw [Int.natAbs_natCast];omega)
 have h2':=o_uk x (by omega)
 have h3':=o_uk y (by omega)
 have h6:=o_uh (x.num*y.den) (y.num*x.den) (by rw [e1];omega) (by rw [e2];omega)
 have e:cmpI (x.num*y.den) (y.num*x.den)=cmpQ x y:=by
  have a:=o_u6 x y
  have b:=o_u6 y x
  unfold cmpI cmpQ
  by_cases h:x<y
  ·rw [if_pos h,if_pos (a.1 h)]
  ·rw [if_neg h,if_neg (fun q=>h (a.2 q))]
   by_cases h2:y<x
   ·rw [if_pos h2,if_pos (b.1 h2)]
   ·rw [if_neg h2,if_neg (fun q=>h2 (b.2 q))]
 rw [e] at h6
 refine cc (c':=?z70) ?_ ?_
 case refine_1=>cbv<;>exact rfl
 try simp only [rD] at h2' h3' ⊢
 generalize hz1:x.num*(y.den:Int)=z1 at *
 generalize hz2:y.num*(x.den:Int)=z2 at *
 simp only [wD] at h1 h1' h2' h3' h6
 refine G0 ?_;try with_reducible exact tt
 refine CallS.pu (h3') (R0 ?_);try with_reducible exact tt
 refine CallS.pu (h1) (R0 ?_);try with_reducible exact tt
 refine CallS.pu (h2') (R0 ?_);try with_reducible exact tt
 refine CallS.pu (h1') (R0 ?_);try with_reducible exact tt
 refine CallS.pu (h6) (R0 ?_);try with_reducible exact tt

theorem o_up {I:Nat→Prop} {w:World} {v:Value} (h:D.rep I w .nilsl v):D.rep I w (natW 0) v:=by
 have:=Sub1.nil (⟨fun _=>none,I,w⟩:Mem) v (by rw [V.rep_d];exact h)
 rw [V.rep_d] at this
 exact this
theorem Sub1.rat0 {x y:D}:Sub1 (.d (.agg [x,y,.nilsl])) (.d (.agg [x,y,natW 0])):=fun m v k=>by
 rw [V.rep_d] at k ⊢
 unfold D.rep at k ⊢
 obtain ⟨vs,h1,h0,h2⟩:=k
 refine ⟨vs,h1,h0,?_⟩
 obtain ⟨a,r,rfl,ha,h2⟩:=D.reps_cons'.1 h2
 obtain ⟨b,r,rfl,hb,h2⟩:=D.reps_cons'.1 h2
 obtain ⟨c,r,rfl,hc,h2⟩:=D.reps_cons'.1 h2
 exact D.reps_cons.2 ⟨ha,D.reps_cons.2 ⟨hb,D.reps_cons.2 ⟨o_up hc,h2⟩⟩⟩
theorem o_uq (n:Nat):Eqn Tryz.prog o_ih [.d (.agg [natW n])] [] (.d (rD (n:Rat))) []:=by
 refine Eqn.pure o_ij (o_5e _) ?_
 have h1:=o_ub false n (n:Int) rfl
 have e:rD (n:Rat) = .agg [natW n,.bool false,natW 0]:=by
  unfold rD
  rw [Rat.num_natCast,Rat.den_natCast,Int.natAbs_natCast]
  congr 4
 rw [e]
 have e2:wD (n:Int) = .agg [natW n,.bool false]:=by
  unfold wD
  rw [Int.natAbs_natCast]
  congr 4
 rw [e2] at h1
 refine cc (c':=?z71) ?_ ?_
 case refine_1=>cbv<;>exact rfl
 refine G0 ?_;try with_reducible exact tt
 refine CallS.pu (h1) (R0 ?_);try with_reducible exact tt
 exact Sub1.rat0
end
section
open Go.RowKit
theorem o_ur (m:Nat) (hm:m≤4611686018427387904):bits BinOp.and IntKind.i64 (m:Int) 1=((m%2:Nat):Int):=by
 show IntKind.i64.wrap (((BitVec.ofInt 64 (m:Int)) &&& (BitVec.ofInt 64 (1:Int))).toNat:Int)=_
 have h1:(BitVec.ofInt 64 (1:Int)).toNat=1:=by decide
 rw [BitVec.toNat_and,h1,BitVec.ofInt_natCast,BitVec.toNat_ofNat,Nat.mod_eq_of_lt (by omega),Nat.and_one_is_mod]
 exact w64 (by omega) (by omega)

theorem o_us {r x m T:Nat} (h:r*x^m=T):(if m%2=1 then r*x else r)*(x*x)^(m/2)=T:=by
 have e:x^m=(x*x)^(m/2)*x^(m%2):=by
  rw [←Nat.pow_two,←Nat.pow_mul,←Nat.pow_add,Nat.div_add_mod]
 rw [←h,e]
 rcases Nat.mod_two_eq_zero_or_one m with h2 | h2
 ·rw [h2,if_neg (by omega)];simp
 ·rw [h2,if_pos rfl,Nat.pow_one,Nat.mul_assoc,Nat.mul_comm x]
theorem o_ut {r x m T:Nat} (h:r*x^m=T) (hm:0<m) (hx:1≤x) (hr:1≤r):x≤T∧r≤T:=by
 have h1:1≤x^m:=Nat.pow_pos hx
 have h2:x≤x^m:=by
  calc x=x^1:=(Nat.pow_one x).symm
   _≤x^m:=Nat.pow_le_pow_right hx hm
 constructor
 ·rw [←h];exact Nat.le_trans h2 (Nat.le_mul_of_pos_left _ hr)
 ·rw [←h];exact Nat.le_mul_of_pos_right _ h1

set_option maxHeartbeats 2000000 in
theorem o_uu (a n:Nat) (hn:n≤8192) (hb:bitsN a≤1∨n≤8192/bitsN a) (has:size a≤129):Eqn Tryz.prog o_kq [.d (.agg [natW a]),.d (.int .i64 n)] [] (.tup [.d (.agg [natW (a^n)]),.d (.int .i64 0)]) []:=by
 refine Eqn.pure o_ks Plain.ok ?_
 have hbits:=o_qt a (by omega)
 have hof:Eqn Tryz.prog o_cp [.d (.sl 1 [.int .u64 (1:Nat)])] [] (.d (.agg [natW 1])) []:=by
  have:=o_o6 [1] (o_p2 (by omega)) (by simp)
  simpa [W,wval] using this
 obtain ⟨q,hq⟩:∃q,bitsN a=q:=⟨_,rfl⟩
 refine cc (c':=?z72) ?_ ?_
 case refine_1=>cbv<;>exact rfl
 have hn0:¬(n:Int)<0:=by omega
 rw [hq] at hbits hb
 obtain ⟨T,hT⟩:∃T,a^n=T:=⟨_,rfl⟩
 have hTs:size T≤129:=by
  rw [←hT]
  by_cases h1:q≤1
  ·have:a≤1:=by have:=o_q7 a;rw [hq] at this;have:=Nat.pow_le_pow_right (n:=2) (by omega) h1;omega
   have h2:a^n≤1:=by have:=Nat.pow_le_pow_left this n;rwa [Nat.one_pow] at this
   have:=o_oq h2
   have:=o_p8 (x:=1) (by omega)
   omega
  ·refine o_s1 (n:=q*n+1) ?_ ?_
   ·rw [Nat.pow_succ]
    have h2:=o_q7 a
    rw [hq] at h2
    have h3:a^n≤(2^q)^n:=Nat.pow_le_pow_left (Nat.le_of_lt h2) n
    rw [←Nat.pow_mul] at h3
    have:=Nat.two_pow_pos (q*n)
    omega
   ·have h2:n≤8192/q:=hb.resolve_left h1
    rw [Nat.le_div_iff_mul_le (by omega)] at h2
    rw [Nat.mul_comm] at h2
    omega
 obtain ⟨n',hn',hn2⟩:∃n':Nat,n'=(if q≤1 then min n 1 else n)∧a^n'=T:=by
  refine ⟨_,rfl,?_⟩
  by_cases h1:q≤1
  ·have ha1:a≤1:=by have:=o_q7 a;rw [hq] at this;have:=Nat.pow_le_pow_right (n:=2) (by omega) h1;omega
   rw [if_pos h1,←hT]
   rcases (by omega:a=0∨a=1) with rfl | rfl
   ·rcases Nat.eq_zero_or_pos n with rfl | hp
    ·rfl
    ·rw [Nat.min_eq_right hp,Nat.zero_pow hp]
   ·rw [Nat.one_pow,Nat.one_pow]
  ·rw [if_neg h1,hT]
 rw [hT]
 by_cases h1:q≤1
 ·rw [if_pos h1] at hn'
  have hq1:¬(1:Int)<q:=by omega
  have hq1n:¬1<q:=by omega
  have hq2:(q:Int)≤1:=by omega
  have hmin:min (n:Int) 1=(n':Int):=by omega
  have hn8:n'≤8192:=by omega
  have hn1:1<n'→1≤a∧1≤1:=fun h=>by omega
  refine G1 hn0 ?_;try with_reducible exact tt
  refine AW.cond rfl (fun h=>?_) (fun h=>?_)
  ·simp [hn0] at h
  refine G0 ?_;try with_reducible exact tt
  refine CallS.pu (hbits) (R1 (fs hq1 (fs hq1n h1)) ?_);try with_reducible exact tt
  refine AW.cond rfl (fun h=>?_) (fun h=>?_)
  ·simp at h
  refine AW.skip ?_
  simp
  refine G0 ?_;try with_reducible exact tt
  refine CallS.pf 2 1 ⟨181,_⟩ [.int .u64 (1:Nat)] (hof) (by first | rfl | (simp;done)) (R0 ?_);try with_reducible exact tt
  refine CallS.pu (hbits) (R1 (fs hq2 h1) ?_);try with_reducible exact tt
  refine AW.cond rfl (fun h=>?_) (fun h=>?_)
  rotate_left
  ·simp [hq2,h1] at h
  refine G1 hmin ?_;try with_reducible exact tt
  refine AW.loopT (α:=Nat×Nat×Nat) 4 (fun s=>[(1,.d (.int .i64 (s.1:Nat)))]) (fun s=>[(0,⟨43,[.d (natW s.2.1)]⟩),(3,⟨43,[.d (natW s.2.2)]⟩)]) (fun s=>s.1≤8192∧s.2.2*s.2.1^s.1=T∧(0<s.1→size s.2.1≤200∧size s.2.2≤200)∧(1<s.1→1≤s.2.1∧1≤s.2.2)) (fun s=>s.1) (n',a,1) ?_ ?_ ⟨hn8,by rw [Nat.one_mul];exact hn2,fun _=>⟨Nat.le_trans has (by omega),Nat.le_trans (o_p8 (x:=1) (by omega)) (by omega)⟩,hn1⟩ ?_ ?_ ?_
  ·simp
  ·simp
  ·simp
  ·simp
  clear hn8 hn1 hn2 hn'
  rintro ⟨m,x,r⟩ ⟨hm8,hT2,hsz,hpos⟩
  simp only at hm8 hT2 hsz hpos
  simp
  by_cases hm0:m=0
  ·subst hm0
   rw [Nat.pow_zero,Nat.mul_one] at hT2
   subst hT2
   refine G0 ?_;try with_reducible exact tt
   refine AW.cond rfl (fun h=>?_) (fun h=>?_)
   ·simp at h
   refine AW.exit ?_
   (try (simp -implicitDefEqProofs;try simp (disch:=omega) only [w64,wu64]))
   refine G0 ?_;try with_reducible exact tt
  ·have hm1:(0:Int)<m:=by omega
   have hm2:0<m:=by omega
   obtain ⟨sx,sr⟩:=hsz hm2
   have hand:=o_ur m (by omega)
   have hm1':=o_s0 r x (by omega) (by omega)
   have hm2':=o_s0 x x (by omega) (by omega)
   have hdv:(m:Int)/2=((m/2:Nat):Int):=rfl
   have hr:=o_us hT2
   have hnext:(1<m/2→1≤x*x∧1≤(if m%2=1 then r*x else r)):=fun h=>by
    obtain ⟨p1,p2⟩:=hpos (by omega)
    refine ⟨Nat.mul_pos p1 p1,?_⟩
    split
    ·exact Nat.mul_pos p2 p1
    ·exact p2
   have hnext2:(0<m/2→size (x*x)≤200∧size (if m%2=1 then r*x else r)≤200):=fun h=>by
    obtain ⟨p1,p2⟩:=hpos (by omega)
    have q1:1≤x*x:=Nat.mul_pos p1 p1
    have q2:1≤(if m%2=1 then r*x else r):=by
     split
     ·exact Nat.mul_pos p2 p1
     ·exact p2
    obtain ⟨k1,k2⟩:=o_ut hr h q1 q2
    exact ⟨Nat.le_trans (o_oq k1) (by omega),Nat.le_trans (o_oq k2) (by omega)⟩
   have hlt2:m/2<m:=by omega
   generalize m/2=hm at *
   rcases Nat.mod_two_eq_zero_or_one m with h2 | h2
   ·rw [h2] at hand hr hnext hnext2
    rw [if_neg (by omega)] at hr hnext hnext2
    refine G1 (fs hm1 hm2) ?_;try with_reducible exact tt
    refine AW.cond rfl (fun h=>?_) (fun h=>?_)
    rotate_left
    ·simp [hm1,hm2] at h
    refine G1 hand ?_;try with_reducible exact tt
    refine AW.cond rfl (fun h=>?_) (fun h=>?_)
    ·simp at h
    refine G0 ?_;try with_reducible exact tt
    refine CallS.pu (hm2') (R1 hdv ?_);try with_reducible exact tt
    repeat (first | refine AW.seq ?_ | refine AW.block ?_ | (refine AW.reg mix ?_;simp -implicitDefEqProofs [hdv];try simp (disch:=omega) only [w64,wu64]) | (refine need.of (by first | omega | kernel_rfl) ?_) | (refine AW.fin ?_;try simp -implicitDefEqProofs [hdv]))
    (try (simp -implicitDefEqProofs [hdv];try simp (disch:=omega) only [w64,wu64]))
    repeat (first | refine AW.seq ?_ | refine AW.block ?_ | (refine AW.reg mix ?_;simp -implicitDefEqProofs [hdv];try simp (disch:=omega) only [w64,wu64]) | (refine need.of (by first | omega | kernel_rfl) ?_) | (refine AW.fin ?_;try simp -implicitDefEqProofs [hdv]))
    exact ⟨hm,_,_,⟨by omega,hr,hnext2,hnext⟩,hlt2,by simp,Subs.refl _,Subs.refl _⟩
   ·rw [h2] at hand hr hnext hnext2
    rw [if_pos rfl] at hr hnext hnext2
    refine G1 (fs hm1 hm2) ?_;try with_reducible exact tt
    refine AW.cond rfl (fun h=>?_) (fun h=>?_)
    rotate_left
    ·simp [hm1,hm2] at h
    refine G1 hand ?_;try with_reducible exact tt
    refine AW.cond rfl (fun h=>?_) (fun h=>?_)
    rotate_left
    ·simp at h
    refine G0 ?_;try with_reducible exact tt
    refine CallS.pu (hm1') (R0 ?_);try with_reducible exact tt
    refine CallS.pu (hm2') (R1 hdv ?_);try with_reducible exact tt
    repeat (first | refine AW.seq ?_ | refine AW.block ?_ | (refine AW.reg mix ?_;simp -implicitDefEqProofs [hdv];try simp (disch:=omega) only [w64,wu64]) | (refine need.of (by first | omega | kernel_rfl) ?_) | (refine AW.fin ?_;try simp -implicitDefEqProofs [hdv]))
    (try (simp -implicitDefEqProofs [hdv];try simp (disch:=omega) only [w64,wu64]))
    repeat (first | refine AW.seq ?_ | refine AW.block ?_ | (refine AW.reg mix ?_;simp -implicitDefEqProofs [hdv];try simp (disch:=omega) only [w64,wu64]) | (refine need.of (by first | omega | kernel_rfl) ?_) | (refine AW.fin ?_;try simp -implicitDefEqProofs [hdv]))
    exact ⟨hm,_,_,⟨by omega,hr,hnext2,hnext⟩,hlt2,by simp,Subs.refl _,Subs.refl _⟩
 ·rw [if_neg h1] at hn'
  rw [hn'] at hn2
  clear hn' n'
  have hq1:(1:Int)<q:=by omega
  have hq1n:1<q:=by omega
  have hq2:¬(q:Int)≤1:=by omega
  have hq0:(q:Int)≠0:=by omega
  have hle:n≤8192/q:=hb.resolve_left h1
  have hdq:IntKind.i64.wrap ((8192:Int).tdiv q)=((8192/q:Nat):Int):=by
   rw [show (8192:Int).tdiv q=((8192/q:Nat):Int) from rfl,w64 (by omega) (by have:=Nat.div_le_self 8192 q;omega)]
  have ha1:1≤a:=by
   rcases Nat.eq_zero_or_pos a with rfl | h
   ·exfalso
    have:bitsN 0≤0:=o_q8 (by decide)
    omega
   ·exact h
  have hn8:n≤8192:=hn
  have hn1:1<n→1≤a∧1≤1:=fun _=>⟨ha1,by omega⟩
  generalize 8192/q=dq at *
  have hle2:¬(dq:Int)<n:=by omega
  have hle3:¬dq<n:=by omega
  have hn':True:=trivial
  refine G1 hn0 ?_;try with_reducible exact tt
  refine AW.cond rfl (fun h=>?_) (fun h=>?_)
  ·simp [hn0] at h
  refine G0 ?_;try with_reducible exact tt
  refine CallS.pu (hbits) (R1 (fs hq1 hq1n) ?_);try with_reducible exact tt
  refine CallS.pu (hbits) (R1 (fs hq0 (fs hdq (fs hle2 (fs hle3 (fs hq1 hq1n))))) ?_);try with_reducible exact tt
  refine AW.cond rfl (fun h=>?_) (fun h=>?_)
  ·simp [hle2,hle3] at h
  refine AW.skip ?_
  simp
  refine G0 ?_;try with_reducible exact tt
  refine CallS.pf 2 1 ⟨181,_⟩ [.int .u64 (1:Nat)] (hof) (by first | rfl | (simp;done)) (R0 ?_);try with_reducible exact tt
  refine CallS.pu (hbits) (R1 (fs hq2 h1) ?_);try with_reducible exact tt
  refine AW.cond rfl (fun h=>?_) (fun h=>?_)
  ·simp [hq2,h1] at h
  refine AW.skip ?_
  simp
  refine G0 ?_;try with_reducible exact tt
  refine AW.loopT (α:=Nat×Nat×Nat) 4 (fun s=>[(1,.d (.int .i64 (s.1:Nat)))]) (fun s=>[(0,⟨43,[.d (natW s.2.1)]⟩),(3,⟨43,[.d (natW s.2.2)]⟩)]) (fun s=>s.1≤8192∧s.2.2*s.2.1^s.1=T∧(0<s.1→size s.2.1≤200∧size s.2.2≤200)∧(1<s.1→1≤s.2.1∧1≤s.2.2)) (fun s=>s.1) (n,a,1) ?_ ?_ ⟨hn8,by rw [Nat.one_mul];exact hn2,fun _=>⟨Nat.le_trans has (by omega),Nat.le_trans (o_p8 (x:=1) (by omega)) (by omega)⟩,hn1⟩ ?_ ?_ ?_
  ·simp
  ·simp
  ·simp
  ·simp
  clear hn8 hn1 hn2 hn'
  rintro ⟨m,x,r⟩ ⟨hm8,hT2,hsz,hpos⟩
  simp only at hm8 hT2 hsz hpos
  simp
  by_cases hm0:m=0
  ·subst hm0
   rw [Nat.pow_zero,Nat.mul_one] at hT2
   subst hT2
   refine G0 ?_;try with_reducible exact tt
   refine AW.cond rfl (fun h=>?_) (fun h=>?_)
   ·simp at h
   refine AW.exit ?_
   (try (simp -implicitDefEqProofs;try simp (disch:=omega) only [w64,wu64]))
   refine G0 ?_;try with_reducible exact tt
  ·have hm1:(0:Int)<m:=by omega
   have hm2:0<m:=by omega
   obtain ⟨sx,sr⟩:=hsz hm2
   have hand:=o_ur m (by omega)
   have hm1':=o_s0 r x (by omega) (by omega)
   have hm2':=o_s0 x x (by omega) (by omega)
   have hdv:(m:Int)/2=((m/2:Nat):Int):=rfl
   have hr:=o_us hT2
   have hnext:(1<m/2→1≤x*x∧1≤(if m%2=1 then r*x else r)):=fun h=>by
    obtain ⟨p1,p2⟩:=hpos (by omega)
    refine ⟨Nat.mul_pos p1 p1,?_⟩
    split
    ·exact Nat.mul_pos p2 p1
    ·exact p2
   have hnext2:(0<m/2→size (x*x)≤200∧size (if m%2=1 then r*x else r)≤200):=fun h=>by
    obtain ⟨p1,p2⟩:=hpos (by omega)
    have q1:1≤x*x:=Nat.mul_pos p1 p1
    have q2:1≤(if m%2=1 then r*x else r):=by
     split
     ·exact Nat.mul_pos p2 p1
     ·exact p2
    obtain ⟨k1,k2⟩:=o_ut hr h q1 q2
    exact ⟨Nat.le_trans (o_oq k1) (by omega),Nat.le_trans (o_oq k2) (by omega)⟩
   have hlt2:m/2<m:=by omega
   generalize m/2=hm at *
   rcases Nat.mod_two_eq_zero_or_one m with h2 | h2
   ·rw [h2] at hand hr hnext hnext2
    rw [if_neg (by omega)] at hr hnext hnext2
    refine G1 (fs hm1 hm2) ?_;try with_reducible exact tt
    refine AW.cond rfl (fun h=>?_) (fun h=>?_)
    rotate_left
    ·simp [hm1,hm2] at h
    refine G1 hand ?_;try with_reducible exact tt
    refine AW.cond rfl (fun h=>?_) (fun h=>?_)
    ·simp at h
    refine G0 ?_;try with_reducible exact tt
    refine CallS.pu (hm2') (R1 hdv ?_);try with_reducible exact tt
    repeat (first | refine AW.seq ?_ | refine AW.block ?_ | (refine AW.reg mix ?_;simp -implicitDefEqProofs [hdv];try simp (disch:=omega) only [w64,wu64]) | (refine need.of (by first | omega | kernel_rfl) ?_) | (refine AW.fin ?_;try simp -implicitDefEqProofs [hdv]))
    (try (simp -implicitDefEqProofs [hdv];try simp (disch:=omega) only [w64,wu64]))
    repeat (first | refine AW.seq ?_ | refine AW.block ?_ | (refine AW.reg mix ?_;simp -implicitDefEqProofs [hdv];try simp (disch:=omega) only [w64,wu64]) | (refine need.of (by first | omega | kernel_rfl) ?_) | (refine AW.fin ?_;try simp -implicitDefEqProofs [hdv]))
    exact ⟨hm,_,_,⟨by omega,hr,hnext2,hnext⟩,hlt2,by simp,Subs.refl _,Subs.refl _⟩
   ·rw [h2] at hand hr hnext hnext2
    rw [if_pos rfl] at hr hnext hnext2
    refine G1 (fs hm1 hm2) ?_;try with_reducible exact tt
    refine AW.cond rfl (fun h=>?_) (fun h=>?_)
    rotate_left
    ·simp [hm1,hm2] at h
    refine G1 hand ?_;try with_reducible exact tt
    refine AW.cond rfl (fun h=>?_) (fun h=>?_)
    rotate_left
    ·simp at h
    refine G0 ?_;try with_reducible exact tt
    refine CallS.pu (hm1') (R0 ?_);try with_reducible exact tt
    refine CallS.pu (hm2') (R1 hdv ?_);try with_reducible exact tt
    repeat (first | refine AW.seq ?_ | refine AW.block ?_ | (refine AW.reg mix ?_;simp -implicitDefEqProofs [hdv];try simp (disch:=omega) only [w64,wu64]) | (refine need.of (by first | omega | kernel_rfl) ?_) | (refine AW.fin ?_;try simp -implicitDefEqProofs [hdv]))
    (try (simp -implicitDefEqProofs [hdv];try simp (disch:=omega) only [w64,wu64]))
    repeat (first | refine AW.seq ?_ | refine AW.block ?_ | (refine AW.reg mix ?_;simp -implicitDefEqProofs [hdv];try simp (disch:=omega) only [w64,wu64]) | (refine need.of (by first | omega | kernel_rfl) ?_) | (refine AW.fin ?_;try simp -implicitDefEqProofs [hdv]))
    exact ⟨hm,_,_,⟨by omega,hr,hnext2,hnext⟩,hlt2,by simp,Subs.refl _,Subs.refl _⟩
end
section
open Go.RowKit
def BL (cs:List Bool):D:=.sl cs.length (cs.map .bool)
abbrev tapeO (cs:List Bool) (p:Nat) (dead:Bool):Ob:=⟨159,[.d (.int .i64 p),.d (.bool dead),.d (BL cs)]⟩

def flipB (cs:List Bool) (p:Nat) (dead:Bool):Bool:=if dead∨p=cs.length then false else cs.getD p false
def flipE (cs:List Bool) (p:Nat) (dead:Bool):Int:=if dead∨p=cs.length then 8 else 0
def flipP (cs:List Bool) (p:Nat) (dead:Bool):Nat:=if dead∨p=cs.length then p else p+1
def flipD (cs:List Bool) (p:Nat) (dead:Bool):Bool:=if dead∨p=cs.length then true else dead

theorem o_uv (n:Nat) (l:List D) (hl:l.length=n) (hn:n≤4000000):Eqn Tryz.prog o_b4 [.d (.sl n l)] [] (.d (.sl n l)) []:=by
 refine Eqn.pure o_b6 (o_5e _) ?_
 refine cc (c':=?z73) ?_ ?_
 case refine_1=>cbv<;>exact rfl
 rcases Nat.eq_zero_or_pos n with rfl | h0
 ·have:l=[]:=List.eq_nil_of_length_eq_zero hl
  subst this
  refine AW.empty 0 rfl ?_ ?_
  ·simp
   refine G0 ?_;try with_reducible exact tt
   refine AW.cond rfl (fun h=>?_) (fun h=>?_)
   ·refine G0 ?_;try with_reducible exact tt
    exact Sub1.nil
   ·simp at h
  ·simp
   refine G0 ?_;try with_reducible exact tt
   refine AW.cond rfl (fun h=>?_) (fun h=>?_)
   ·simp at h
   ·refine G0 ?_;try with_reducible exact tt
    exact Sub1.sl0
 ·refine G1 h0 ?_;try with_reducible exact tt
  refine AW.cond rfl (fun h=>?_) (fun h=>?_)
  ·simp at h
  ·refine G0 ?_;try with_reducible exact tt
   have h1:¬n=0:=by omega
   simp [h1,hl]
   refine need.of (by omega) ?_
   refine AW.freeze 0 1 ⟨4,l.map .d⟩ l (by simp) rfl ?_
   simp
   refine G0 ?_;try with_reducible exact tt
   have:l.take n=l:=List.take_of_length_le (by omega)
   simp [this]

theorem o_uw (cs:List Bool) (p:Nat) (dd:Bool) (hp:p≤cs.length) (hn:cs.length≤4000000):Eqn Tryz.prog o_in [.p 0 0] [tapeO cs p dd] (.tup [.d (.bool (flipB cs p dd)),.d (.int .i64 (flipE cs p dd))]) [tapeO cs (flipP cs p dd) (flipD cs p dd)]:=by
 refine Eqn.obj1 o_ip (o_ol _ _) ⟨rfl,fun _=>rfl⟩ ?_
 refine cc (c':=?z74) ?_ ?_
 case refine_1=>cbv<;>exact rfl
 try simp only [tapeO,BL]
 cases dd with
 | true =>
  refine G0 ?_;try with_reducible exact tt
  refine AW.cond rfl (fun h=>?_) (fun h=>?_)
  ·refine G0 ?_;try with_reducible exact tt
   simp [flipB,flipE,flipP,flipD]
  ·simp at h
 | false =>
  by_cases h:p=cs.length
  ·subst h
   refine G0 ?_;try with_reducible exact tt
   refine AW.cond rfl (fun h=>?_) (fun h=>?_)
   ·refine G0 ?_;try with_reducible exact tt
    simp [flipB,flipE,flipP,flipD]
   ·simp at h
  ·have h1:¬(p:Int)=cs.length:=by omega
   have h2:p<cs.length:=by omega
   refine G1 (fs h1 h) ?_;try with_reducible exact tt
   refine AW.cond rfl (fun h=>?_) (fun h=>?_)
   ·simp [h1] at h
   ·have e1:IntKind.i64.wrap ((p:Int)+1)=(p:Int)+1:=w64 (by omega) (by omega)
    have e2:IntKind.i64.wrap ((p:Int)+1-1)=(p:Int):=by rw [Int.add_sub_cancel];exact w64 (by omega) (by omega)
    refine G1 (fs h1 (fs h2 (fs e1 e2))) ?_;try with_reducible exact tt
    have h4:¬p=cs.length:=by omega
    have h3:cs[p]?.getD false=cs[p]:=by simp [h2]
    simp [flipB,flipE,flipP,flipD,h4,h3]

def halfR (cs:List Bool):Nat→Nat→Bool→Bool×Int×Nat×Bool
 | 0,p,dd=>(true,0,p,dd)
 | k+1,p,dd=>if flipB cs p dd then halfR cs k (flipP cs p dd) (flipD cs p dd) else (false,flipE cs p dd,flipP cs p dd,flipD cs p dd)

theorem o_ux {cs:List Bool} {p:Nat} {dd:Bool} (h:p≤cs.length):flipP cs p dd≤cs.length:=by
 unfold flipP;split
 ·exact h
 ·rename_i h';rw [not_or] at h';omega

theorem o_uy (cs:List Bool) (p:Nat) (dd:Bool) (k:Int) (hk:k≤4000000) (hp:p≤cs.length) (hn:cs.length≤4000000) :
  Eqn Tryz.prog o_ht [.p 0 0,.d (.int .i64 k)] [tapeO cs p dd] (.tup [.d (.bool (halfR cs k.toNat p dd).1),.d (.int .i64 (halfR cs k.toNat p dd).2.1)]) [tapeO cs (halfR cs k.toNat p dd).2.2.1 (halfR cs k.toNat p dd).2.2.2]:=by
 refine Eqn.obj1 o_hv (o_ol _ _) ⟨rfl,fun _=>rfl⟩ ?_
 refine cc (c':=?z75) ?_ ?_
 case refine_1=>cbv<;>exact rfl
 obtain ⟨K,hK,hK2⟩:∃K:Nat,K=k.toNat∧max 0 k=(K:Int):=⟨k.toNat,rfl,by omega⟩
 rw [←hK]
 refine G1 hK2 ?_;try with_reducible exact tt
 refine AW.loopT (α:=Nat×Nat×Bool) 1 (fun s=>[(10,.d (.int .i64 (s.1:Int)))]) (fun s=>[(0,tapeO cs s.2.1 s.2.2)]) (fun s=>s.1≤K∧s.2.1≤cs.length∧halfR cs (K-s.1) s.2.1 s.2.2=halfR cs K p dd) (fun s=>K-s.1) (0,p,dd) ?_ ?_ ⟨Nat.zero_le _,hp,rfl⟩ ?_ ?_ ?_
 ·simp
 ·simp
 ·simp
 ·simp
 rintro ⟨i,q,d⟩ ⟨hi,hq,hR⟩
 simp only at hi hq hR
 rw [←hR]
 simp [-Bool.exists_bool]
 by_cases h:i=K
 ·subst h
  refine G0 ?_;try with_reducible exact tt
  refine AW.cond rfl (fun h=>?_) (fun h=>?_)
  ·simp at h
  refine G0 ?_;try with_reducible exact tt
  simp [halfR]
 ·have hlt:(i:Int)<K:=by omega
  have hlt':i<K:=by omega
  obtain ⟨r,hr⟩:∃r,K-i=r+1:=⟨K-i-1,by omega⟩
  refine G1B (fs hlt hlt') ?_;try with_reducible exact tt
  refine AW.cond rfl (fun h=>?_) (fun h=>?_)
  ·refine G0B ?_;try with_reducible exact tt
   refine CallS.o1 0 (o_uw cs q d hq hn) (R0B ?_);try with_reducible exact tt
   refine AW.cond rfl (fun h=>?_) (fun h=>?_)
   ·have hb:flipB cs q d=false:=by simpa using h
    refine G0 ?_;try with_reducible exact tt
    simp [hr,halfR,hb]
   ·have hb:flipB cs q d=true:=by simpa using h
    have ew:IntKind.i64.wrap ((i:Int)+1)=(i:Int)+1:=w64 (by omega) (by omega)
    refine G1B ew ?_;try with_reducible exact tt
    refine ⟨i+1,flipP cs q d,flipD cs q d,⟨hlt',o_ux hq,?_⟩,by omega,by simp,by simp⟩
    rw [hr,halfR,if_pos hb,show K-(i+1)=r by omega]
  ·simp [hlt'] at h
end
section
open Go.RowKit
theorem o_uz (d:Int):Eqn Tryz.prog o_lh [.d (.int .i64 d)] [] (.d (.bool (decide (0≤d∧d≤8)))) []:=by
 refine Eqn.pure o_lj (o_5e _) ?_
 refine cc (c':=?z76) ?_ ?_
 case refine_1=>cbv<;>exact rfl
 by_cases h:0≤d
 ·refine G1 h ?_;try with_reducible exact tt
 ·refine G1 h ?_;try with_reducible exact tt

def okK (k:Int):Bool:=decide (0≤k∧k≤1023)
def wrongZ (d:Int) (ks:List Int):Int:=if 0≤d∧d≤8 then (if ks.all okK then 0 else 2) else 10

theorem o_v0 (d:Int) (ks:List Int) (hn:ks.length≤1000000):Eqn Tryz.prog o_ln [.d (.int .i64 d),.d (.sl ks.length (ks.map fun k:Int=>.int .i64 k))] [] (.d (.int .i64 (wrongZ d ks))) []:=by
 refine Eqn.pure o_lp (o_5e _) ?_
 refine cc (c':=?z77) ?_ ?_
 case refine_1=>cbv<;>exact rfl
 refine G0 ?_;try with_reducible exact tt
 refine CallS.pu (o_uz d) (R0 ?_);try with_reducible exact tt
 by_cases hd:0≤d∧d≤8
 ·refine AW.cond rfl (fun h=>?_) (fun h=>?_)
  ·simp [hd] at h
  refine G0 ?_;try with_reducible exact tt
  refine AW.loopT (α:=Nat) 0 (fun i=>[(12,.d (.int .i64 (i:Int)))]) (fun i=>[]) (fun i=>i≤ks.length∧(ks.take i).all okK=true) (fun i=>ks.length-i) 0 ?_ ?_ ⟨Nat.zero_le _,by simp⟩ ?_ ?_ ?_
  ·simp
  ·simp
  ·simp
  ·simp
  rintro i ⟨hi,hall⟩
  simp
  by_cases h:i=ks.length
  ·subst h
   rw [List.take_length] at hall
   refine G0 ?_;try with_reducible exact tt
   refine AW.cond rfl (fun h=>?_) (fun h=>?_)
   ·simp at h
   refine G0 ?_;try with_reducible exact tt
   refine Sub1.int ?_
   rw [wrongZ,if_pos hd,if_pos hall]
  ·have hi':i<ks.length:=by omega
   have hp:(i:Int)<ks.length:=by omega
   refine G1 (fs hi' hp) ?_;try with_reducible exact tt
   refine AW.cond rfl (fun h=>?_) (fun h=>?_)
   ·have hbad:okK ks[i]=false→wrongZ d ks=2:=by
     intro hb
     rw [wrongZ,if_pos hd,if_neg]
     intro ha
     rw [List.all_eq_true] at ha
     have:=ha ks[i] (List.getElem_mem _)
     rw [hb] at this;cases this
    by_cases h0:ks[i]<0
    ·refine G1 (fs hi' (fs hp h0)) ?_;try with_reducible exact tt
     refine AW.cond rfl (fun h=>?_) (fun h=>?_)
     ·refine G0 ?_;try with_reducible exact tt
      refine Sub1.int ?_
      rw [hbad (by simp [okK];omega)]
     ·simp [h0] at h
    ·by_cases h1:1023<ks[i]
     ·refine G1 (fs hi' (fs hp (fs h0 h1))) ?_;try with_reducible exact tt
      refine AW.cond rfl (fun h=>?_) (fun h=>?_)
      ·refine G0 ?_;try with_reducible exact tt
       refine Sub1.int ?_
       rw [hbad (by simp [okK];omega)]
      ·simp [h0,h1] at h
     ·refine G1 (fs hi' (fs hp (fs h0 h1))) ?_;try with_reducible exact tt
      refine AW.cond rfl (fun h=>?_) (fun h=>?_)
      ·simp [h0,h1] at h
      have ew:IntKind.i64.wrap ((i:Int)+1)=(i:Int)+1:=w64 (by omega) (by omega)
      refine G1 ew ?_;try with_reducible exact tt
      refine ⟨i+1,⟨by omega,?_⟩,by omega,by simp⟩
      rw [List.take_add_one,List.getElem?_eq_getElem hi']
      intro x hx
      rcases List.mem_append.1 hx with hx | hx
      ·exact List.all_eq_true.1 hall x hx
      ·simp at hx
       subst hx
       simp [okK];omega
   ·simp [hi'] at h
 ·refine AW.cond rfl (fun h=>?_) (fun h=>?_)
  ·refine G0 ?_;try with_reducible exact tt
   refine Sub1.int ?_
   rw [wrongZ,if_neg hd]
  ·simp at h
   exact absurd h hd

def partV (d k:Nat):Int:=bits .and .i64 k (IntKind.i64.wrap (IntKind.i64.wrap (2^d)-1))
theorem o_v1 (d k:Nat) (hd:d≤8) (hk:k≤1023):Eqn Tryz.prog o_lq [.d (.int .i64 d),.d (.int .i64 k)] [] (.tup [.d (.int .i64 (k/2^d:Nat)),.d (.int .i64 (partV d k))]) []:=by
 refine Eqn.pure o_ls (o_ol _ _) ?_
 refine cc (c':=?z78) ?_ ?_
 case refine_1=>cbv<;>exact rfl
 refine G0 ?_;try with_reducible exact tt
 exact Sub1.of rfl

theorem o_v2 (d k:Int):Eqn Tryz.prog o_ln [.d (.int .i64 d),.d (.sl 1 [.int .i64 k])] [] (.d (.int .i64 (wrongZ d [k]))) []:=o_v0 d [k] (by simp)
theorem o_v3 (d k j:Int):Eqn Tryz.prog o_ln [.d (.int .i64 d),.d (.sl 2 [.int .i64 k,.int .i64 j])] [] (.d (.int .i64 (wrongZ d [k,j]))) []:=o_v0 d [k,j] (by simp)

theorem o_v4 {d k:Int} {ks:List Int} (h:wrongZ d (k::ks)=0):0≤d∧d≤8∧0≤k∧k≤1023:=by
 unfold wrongZ at h
 split at h
 ·split at h
  ·rename_i h1 h2
   simp [okK] at h2
   omega
  ·omega
 ·omega
end
section
open Go.RowKit
theorem o_v5 (m n:Nat) (hm:size m≤1000000) (hn:size n≤1000000) (h:m<n):Eqn Tryz.prog o_g2 [.d (.agg [natW m]),.d (.agg [natW n])] [] (.tup [.d (.agg [.nilsl]),.d (.int .i64 2)]) []:=by
 refine Eqn.pure o_g4 (o_ol _ _) ?_
 refine cc (c':=?z81) ?_ ?_
 case refine_1=>cbv<;>exact rfl
 refine G0 ?_;try with_reducible exact tt
 refine CallS.pu (o_o9 m n hm hn) (R0 ?_);try with_reducible exact tt
 have hc:cmpZ m n = -1:=by unfold cmpZ;rw [if_pos h]
 refine AW.cond rfl (fun h=>?_) (fun h=>?_)
 ·refine G0 ?_;try with_reducible exact tt
 ·simp [hc] at h

theorem o_v6 (p q:Nat) (hp:size p≤1000000) (hq:size q≤1000000):Eqn Tryz.prog o_kt [.d (.agg [natW p]),.d (.agg [natW q])] [] (.d (.bool (decide (0<q∧p≤q)))) []:=by
 refine Eqn.pure o_kv (o_5e _) ?_
 refine cc (c':=?z82) ?_ ?_
 case refine_1=>cbv<;>exact rfl
 by_cases h:q=0
 ·subst h
  refine G0 ?_;try with_reducible exact tt
  refine CallS.pu (o_o7 0) (R0 ?_);try with_reducible exact tt
 ·have h0:(q==0)=false:=by simpa using h
  have hc:decide (cmpZ p q≤0)=decide (0<q∧p≤q):=by
   unfold cmpZ
   split
   ·simp;omega
   ·split
    ·simp;omega
    ·simp;omega
  refine G0 ?_;try with_reducible exact tt
  refine CallS.pu (o_o7 q) (R1 (fs h0 h) ?_);try with_reducible exact tt
  refine CallS.pu (o_o9 p q hp hq) (R1 (fs h0 h) ?_);try with_reducible exact tt
  try simp [hc]

def ratioR (cs:List Bool) (q:Nat):Nat→Nat→Nat→Bool→Bool×Int×Nat×Bool
 | 0,_,p,dd=>(true,0,p,dd)
 | f+1,r,p,dd =>
  if r<q then
   if flipE cs p dd=0 then
    if flipB cs p dd≠decide (q≤r+r)∨(if q≤r+r then r+r-q else r+r)=0 then (decide (q≤r+r)&&!flipB cs p dd,0,flipP cs p dd,flipD cs p dd)
    else ratioR cs q f (if q≤r+r then r+r-q else r+r) (flipP cs p dd) (flipD cs p dd)
   else (false,flipE cs p dd,flipP cs p dd,flipD cs p dd)
  else (true,0,p,dd)
def ratioA (cs:List Bool) (a q:Nat) (p:Nat) (dd:Bool):Bool×Int×Nat×Bool:=if a=0 then (false,0,p,dd) else ratioR cs q (cs.length+1-p) a p dd

theorem o_v7 (cs:List Bool) (a q p:Nat) (dd:Bool) (ha:a≤q) (h0:0<q) (hq:q<9223372036854775808) (hp:p≤cs.length) (hn:cs.length≤4000000) :
  Eqn Tryz.prog o_kw [.p 0 0,.d (.agg [natW a]),.d (.agg [natW q])] [tapeO cs p dd] (.tup [.d (.bool (ratioA cs a q p dd).1),.d (.int .i64 (ratioA cs a q p dd).2.1)]) [tapeO cs (ratioA cs a q p dd).2.2.1 (ratioA cs a q p dd).2.2.2]:=by
 refine Eqn.obj1 o_ky (o_ol _ _) ⟨rfl,fun _=>rfl⟩ ?_
 refine cc (c':=?z83) ?_ ?_
 case refine_1=>cbv<;>exact rfl
 have sz:∀{x:Nat},x<18446744073709551616→size x≤1000000:=fun hx=>Nat.le_trans (o_p8 hx) (by omega)
 have hg:=o_v6 a q (sz (by omega)) (sz (by omega))
 rw [show decide (0<q∧a≤q)=true by simp;omega] at hg
 refine G0B ?_;try with_reducible exact tt
 refine CallS.pu (hg) (R0B ?_);try with_reducible exact tt
 refine AW.cond rfl (fun h=>?_) (fun h=>?_)
 ·simp at h
 clear h
 refine G0B ?_;try with_reducible exact tt
 refine CallS.pu (o_o7 a) (R0B ?_);try with_reducible exact tt
 refine AW.cond rfl (fun h=>?_) (fun h=>?_)
 ·have ha0:a=0:=by simpa using h
  subst ha0
  refine G0B ?_;try with_reducible exact tt
  simp [ratioA]
 have ha0:¬a=0:=by simpa using h
 clear h
 rw [ratioA,if_neg ha0]
 obtain ⟨R,hR⟩:∃R,R=ratioR cs q (cs.length+1-p) a p dd:=⟨_,rfl⟩
 rw [←hR]
 refine G0B ?_;try with_reducible exact tt
 refine AW.loopS (α:=Nat×Nat×Bool) 4 3 (fun s=>[(8,.p 3 0)]) (fun s=>[(0,tapeO cs s.2.1 s.2.2),(3,⟨43,[.d (natW s.1)]⟩)]) (fun s=>s.1≤q∧s.2.1≤cs.length∧R=ratioR cs q (cs.length+1-s.2.1) s.1 s.2.1 s.2.2) (fun s=>cs.length+1-s.2.1) (a,p,dd) ?_ ?_ ?_ ?_ ⟨ha,hp,hR⟩ ?_ ?_ ?_
 ·simp
 ·simp
 ·simp
 ·simp
 ·simp
 ·simp
 rintro ⟨r,z,d⟩ ⟨hr,hz,hR⟩
 simp only at hr hz hR
 simp [-Bool.exists_bool]
 obtain ⟨f,hf⟩:∃f,cs.length+1-z=f+1:=⟨cs.length-z,by omega⟩
 rw [hf,ratioR] at hR
 refine G0B ?_;try with_reducible exact tt
 refine CallS.pu (o_o9 r q (sz (by omega)) (sz (by omega))) (R0B ?_);try with_reducible exact tt
 refine AW.cond rfl (fun h=>?_) (fun h=>?_)
 ·have hlt:r<q:=by simpa [o_p3] using h
  clear h
  rw [if_pos hlt] at hR
  refine G0B ?_;try with_reducible exact tt
  refine CallS.o1 0 (o_uw cs z d hz hn) (R0B ?_);try with_reducible exact tt
  by_cases hE:flipE cs z d=0
  ·have hE2:flipP cs z d=z+1∧z<cs.length:=by
    unfold flipE at hE
    unfold flipP
    split at hE
    ·omega
    ·rename_i h'
     rw [if_neg h']
     rw [not_or] at h'
     omega
   rw [if_pos hE] at hR
   have ha2:=o_on r r (sz (by omega)) (sz (by omega))
   generalize flipB cs z d=b at *
   generalize flipD cs z d=d' at *
   rw [hE2.1] at hR ⊢
   have hz':=hE2.2
   clear hE2
   refine AW.cond rfl (fun h=>?_) (fun h=>?_)
   ·simp [hE] at h
   clear h
   refine G0B ?_;try with_reducible exact tt
   refine CallS.pu (ha2) (R0B ?_);try with_reducible exact tt
   by_cases hd:q≤r+r
   ·rw [if_pos hd,show decide (q≤r+r)=true by simp [hd]] at hR
    refine CallS.pu (o_or (r+r) q (sz (by omega)) hd) (R0B ?_);try with_reducible exact tt
    refine AW.cond rfl (fun h=>?_) (fun h=>?_)
    ·clear h
     cases b with
     | true =>
      simp only [ne_eq,not_true_eq_false,not_false_eq_true,Bool.true_eq_false,Bool.false_eq_true,reduceCtorEq,false_or,true_or,if_true] at hR
      refine G0B ?_;try with_reducible exact tt
      refine CallS.pu (o_o7 (r+r-q)) (R0B ?_);try with_reducible exact tt
      by_cases hz0:r+r-q=0
      ·rw [if_pos hz0] at hR
       refine AW.cond rfl (fun h=>?_) (fun h=>?_)
       ·refine G0B ?_;try with_reducible exact tt
        simp [hR]
       ·first | (simp [hz0] at h;done) | (exfalso;simp at h;omega)
      ·rw [if_neg hz0] at hR
       refine AW.cond rfl (fun h=>?_) (fun h=>?_)
       ·first | (simp [hz0] at h;done) | (exfalso;simp at h;omega)
       ·clear h
        refine G0B ?_;try with_reducible exact tt
        refine ⟨r+r-q,z+1,d',5,by omega,by omega,⟨by omega,by omega,by rw [show cs.length+1-(z+1)=f by omega];exact hR⟩,by omega,?_⟩
        simp [swT,swH,sw,Ob.sw,V.ren,V.rens,tapeO]
     | false =>
      simp only [ne_eq,not_true_eq_false,not_false_eq_true,Bool.true_eq_false,Bool.false_eq_true,reduceCtorEq,false_or,true_or,if_true] at hR
      refine G0B ?_;try with_reducible exact tt
      refine AW.cond rfl (fun h=>?_) (fun h=>?_)
      ·refine G0B ?_;try with_reducible exact tt
       simp [hR]
      ·simp at h
    ·simp at h
   ·rw [if_neg hd,show decide (q≤r+r)=false by simp [hd]] at hR
    refine CallS.pu (o_v5 (r+r) q (sz (by omega)) (sz (by omega)) (by omega)) (R0B ?_);try with_reducible exact tt
    refine AW.cond rfl (fun h=>?_) (fun h=>?_)
    ·simp at h
    ·clear h
     cases b with
     | false =>
      simp only [ne_eq,not_true_eq_false,not_false_eq_true,Bool.true_eq_false,Bool.false_eq_true,reduceCtorEq,false_or,true_or,if_true] at hR
      refine G0B ?_;try with_reducible exact tt
      refine CallS.pu (o_o7 (r+r)) (R0B ?_);try with_reducible exact tt
      by_cases hz0:r+r=0
      ·rw [if_pos hz0] at hR
       refine AW.cond rfl (fun h=>?_) (fun h=>?_)
       ·refine G0B ?_;try with_reducible exact tt
        simp [hR]
       ·first | (simp [hz0] at h;done) | (exfalso;simp at h;omega)
      ·rw [if_neg hz0] at hR
       refine AW.cond rfl (fun h=>?_) (fun h=>?_)
       ·first | (simp [hz0] at h;done) | (exfalso;simp at h;omega)
       ·clear h
        refine G0B ?_;try with_reducible exact tt
        refine ⟨r+r,z+1,d',5,by omega,by omega,⟨by omega,by omega,by rw [show cs.length+1-(z+1)=f by omega];exact hR⟩,by omega,?_⟩
        simp [swT,swH,sw,Ob.sw,V.ren,V.rens,tapeO]
     | true =>
      simp only [ne_eq,not_true_eq_false,not_false_eq_true,Bool.true_eq_false,Bool.false_eq_true,reduceCtorEq,false_or,true_or,if_true] at hR
      refine G0B ?_;try with_reducible exact tt
      refine AW.cond rfl (fun h=>?_) (fun h=>?_)
      ·refine G0B ?_;try with_reducible exact tt
       simp [hR]
      ·simp at h
  ·rw [if_neg hE] at hR
   refine AW.cond rfl (fun h=>?_) (fun h=>?_)
   ·refine G0B ?_;try with_reducible exact tt
    simp [hR]
   ·simp [hE] at h
 ·have hlt:¬r<q:=by simpa [o_p3] using h
  rw [if_neg hlt] at hR
  refine AW.exit ?_
  (try (simp -implicitDefEqProofs [-Bool.exists_bool];try simp (disch:=omega) only [w64,wu64]))
  refine G0B ?_;try with_reducible exact tt
  simp [hR]
end
section
open Go.RowKit
theorem o_v8 {cs:List Bool} {q:Nat}:∀(f r p:Nat) (dd:Bool),p≤cs.length→(ratioR cs q f r p dd).2.2.1≤cs.length
 | 0,_,_,_,h=>h
 | f+1,r,p,dd,h=>by
  rw [ratioR]
  generalize (if q≤r+r then r+r-q else r+r)=r3
  split
  ·split
   ·split
    ·exact o_ux h
    ·exact o_v8 f _ _ _ (o_ux h)
   ·exact o_ux h
  ·exact h
theorem o_v9 {cs:List Bool} {a q p:Nat} {dd:Bool} (h:p≤cs.length):(ratioA cs a q p dd).2.2.1≤cs.length:=by
 rw [ratioA]
 split
 ·exact h
 ·exact o_v8 _ _ _ _ h

def powerR (cs:List Bool) (a q:Nat):Nat→Nat→Bool→Bool×Int×Nat×Bool
 | 0,p,dd=>(true,0,p,dd)
 | k+1,p,dd=>if (ratioA cs a q p dd).1 then powerR cs a q k (ratioA cs a q p dd).2.2.1 (ratioA cs a q p dd).2.2.2 else ratioA cs a q p dd

theorem o_va (cs:List Bool) (a q p:Nat) (dd:Bool) (k:Int) (ha:a≤q) (h0:0<q) (hq:q<9223372036854775808) (hk:k≤4000000) (hp:p≤cs.length) (hn:cs.length≤4000000) :
  Eqn Tryz.prog o_kn [.p 0 0,.d (.agg [natW a]),.d (.agg [natW q]),.d (.int .i64 k)] [tapeO cs p dd] (.tup [.d (.bool (powerR cs a q k.toNat p dd).1),.d (.int .i64 (powerR cs a q k.toNat p dd).2.1)]) [tapeO cs (powerR cs a q k.toNat p dd).2.2.1 (powerR cs a q k.toNat p dd).2.2.2]:=by
 refine Eqn.obj1 o_kp (o_ol _ _) ⟨rfl,fun _=>rfl⟩ ?_
 refine cc (c':=?z84) ?_ ?_
 case refine_1=>cbv<;>exact rfl
 have sz:∀{x:Nat},x<18446744073709551616→size x≤1000000:=fun hx=>Nat.le_trans (o_p8 hx) (by omega)
 have hg:=o_v6 a q (sz (by omega)) (sz (by omega))
 rw [show decide (0<q∧a≤q)=true by simp;omega] at hg
 obtain ⟨K,hK,hK2⟩:∃K:Nat,K=k.toNat∧max 0 k=(K:Int):=⟨k.toNat,rfl,by omega⟩
 rw [←hK]
 obtain ⟨R,hR⟩:∃R,R=powerR cs a q K p dd:=⟨_,rfl⟩
 rw [←hR]
 refine G0B ?_;try with_reducible exact tt
 refine CallS.pu (hg) (R0B ?_);try with_reducible exact tt
 refine AW.cond rfl (fun h=>?_) (fun h=>?_)
 ·simp at h
 clear h
 refine G1B hK2 ?_;try with_reducible exact tt
 refine AW.loopT (α:=Nat×Nat×Bool) 3 (fun s=>[(18,.d (.int .i64 (s.1:Int)))]) (fun s=>[(0,tapeO cs s.2.1 s.2.2)]) (fun s=>s.1≤K∧s.2.1≤cs.length∧R=powerR cs a q (K-s.1) s.2.1 s.2.2) (fun s=>K-s.1) (0,p,dd) ?_ ?_ ⟨Nat.zero_le _,hp,hR⟩ ?_ ?_ ?_
 ·simp
 ·simp
 ·simp
 ·simp
 rintro ⟨i,z,d⟩ ⟨hi,hz,hR⟩
 simp only at hi hz hR
 simp [-Bool.exists_bool]
 by_cases h:i=K
 ·subst h
  rw [Nat.sub_self,powerR] at hR
  refine G0B ?_;try with_reducible exact tt
  refine AW.cond rfl (fun h=>?_) (fun h=>?_)
  ·simp at h
  refine AW.exit ?_
  (try (simp -implicitDefEqProofs [-Bool.exists_bool];try simp (disch:=omega) only [w64,wu64]))
  refine G0B ?_;try with_reducible exact tt
  simp [hR]
 ·have hlt:(i:Int)<K:=by omega
  have hlt':i<K:=by omega
  obtain ⟨r,hr⟩:∃r,K-i=r+1:=⟨K-i-1,by omega⟩
  rw [hr,powerR] at hR
  have hra:=o_v7 cs a q z d ha h0 hq hz hn
  have hle:=o_v9 (cs:=cs) (a:=a) (q:=q) (dd:=d) hz
  generalize ratioA cs a q z d=S at *
  obtain ⟨S1,S2,S3,S4⟩:=S
  simp only at hra hR hle
  refine G1B (fs hlt hlt') ?_;try with_reducible exact tt
  refine AW.cond rfl (fun h=>?_) (fun h=>?_)
  ·clear h
   refine G0B ?_;try with_reducible exact tt
   refine CallS.o1 0 (hra) (R0B ?_);try with_reducible exact tt
   refine AW.cond rfl (fun h=>?_) (fun h=>?_)
   ·have hb:S1=false:=by simpa using h
    subst hb
    refine G0B ?_;try with_reducible exact tt
    simp [hR]
   ·have hb:S1=true:=by simpa using h
    subst hb
    rw [if_pos rfl] at hR
    have ew:IntKind.i64.wrap ((i:Int)+1)=(i:Int)+1:=w64 (by omega) (by omega)
    refine G1B ew ?_;try with_reducible exact tt
    refine ⟨i+1,S3,S4,⟨hlt',hle,by rw [show K-(i+1)=r by omega];exact hR⟩,by omega,by simp,by simp⟩
  ·simp [hlt'] at h
end
section
open Go.RowKit
theorem o_vb (d:Int):Eqn Tryz.prog o_k8 [.d (.int .i64 d)] [] (.d (.bool (decide (1≤d∧d≤4096)))) []:=by
 refine Eqn.pure o_ka (o_5e _) ?_
 refine cc (c':=?z85) ?_ ?_
 case refine_1=>cbv<;>exact rfl
 by_cases h:1≤d
 ·refine G1 h ?_;try with_reducible exact tt
 ·refine G1 h ?_;try with_reducible exact tt

def wrongM (d:Int) (ks:List Int):Int:=if 1≤d∧d≤4096 then (if ks.all okK then 0 else 2) else 10

theorem o_vc (d:Int) (ks:List Int) (hn:ks.length≤1000000):Eqn Tryz.prog o_ke [.d (.int .i64 d),.d (.sl ks.length (ks.map fun k:Int=>.int .i64 k))] [] (.d (.int .i64 (wrongM d ks))) []:=by
 refine Eqn.pure o_kg (o_5e _) ?_
 refine cc (c':=?z86) ?_ ?_
 case refine_1=>cbv<;>exact rfl
 refine G0 ?_;try with_reducible exact tt
 refine CallS.pu (o_vb d) (R0 ?_);try with_reducible exact tt
 by_cases hd:1≤d∧d≤4096
 ·refine AW.cond rfl (fun h=>?_) (fun h=>?_)
  ·simp [hd] at h
  refine G0 ?_;try with_reducible exact tt
  refine AW.loopT (α:=Nat) 0 (fun i=>[(12,.d (.int .i64 (i:Int)))]) (fun i=>[]) (fun i=>i≤ks.length∧(ks.take i).all okK=true) (fun i=>ks.length-i) 0 ?_ ?_ ⟨Nat.zero_le _,by simp⟩ ?_ ?_ ?_
  ·simp
  ·simp
  ·simp
  ·simp
  rintro i ⟨hi,hall⟩
  simp
  by_cases h:i=ks.length
  ·subst h
   rw [List.take_length] at hall
   refine G0 ?_;try with_reducible exact tt
   refine AW.cond rfl (fun h=>?_) (fun h=>?_)
   ·simp at h
   refine G0 ?_;try with_reducible exact tt
   refine Sub1.int ?_
   rw [wrongM,if_pos hd,if_pos hall]
  ·have hi':i<ks.length:=by omega
   have hp:(i:Int)<ks.length:=by omega
   refine G1 (fs hi' hp) ?_;try with_reducible exact tt
   refine AW.cond rfl (fun h=>?_) (fun h=>?_)
   ·have hbad:okK ks[i]=false→wrongM d ks=2:=by
     intro hb
     rw [wrongM,if_pos hd,if_neg]
     intro ha
     rw [List.all_eq_true] at ha
     have:=ha ks[i] (List.getElem_mem _)
     rw [hb] at this;cases this
    by_cases h0:ks[i]<0
    ·refine G1 (fs hi' (fs hp h0)) ?_;try with_reducible exact tt
     refine AW.cond rfl (fun h=>?_) (fun h=>?_)
     ·refine G0 ?_;try with_reducible exact tt
      refine Sub1.int ?_
      rw [hbad (by simp [okK];omega)]
     ·simp [h0] at h
    ·by_cases h1:1023<ks[i]
     ·refine G1 (fs hi' (fs hp (fs h0 h1))) ?_;try with_reducible exact tt
      refine AW.cond rfl (fun h=>?_) (fun h=>?_)
      ·refine G0 ?_;try with_reducible exact tt
       refine Sub1.int ?_
       rw [hbad (by simp [okK];omega)]
      ·simp [h0,h1] at h
     ·refine G1 (fs hi' (fs hp (fs h0 h1))) ?_;try with_reducible exact tt
      refine AW.cond rfl (fun h=>?_) (fun h=>?_)
      ·simp [h0,h1] at h
      have ew:IntKind.i64.wrap ((i:Int)+1)=(i:Int)+1:=w64 (by omega) (by omega)
      refine G1 ew ?_;try with_reducible exact tt
      refine ⟨i+1,⟨by omega,?_⟩,by omega,by simp⟩
      rw [List.take_add_one,List.getElem?_eq_getElem hi']
      intro x hx
      rcases List.mem_append.1 hx with hx | hx
      ·exact List.all_eq_true.1 hall x hx
      ·simp at hx
       subst hx
       simp [okK];omega
   ·simp [hi'] at h
 ·refine AW.cond rfl (fun h=>?_) (fun h=>?_)
  ·refine G0 ?_;try with_reducible exact tt
   refine Sub1.int ?_
   rw [wrongM,if_neg hd]
  ·simp at h
   exact absurd h hd

theorem o_vd (d k:Int):Eqn Tryz.prog o_ke [.d (.int .i64 d),.d (.sl 1 [.int .i64 k])] [] (.d (.int .i64 (wrongM d [k]))) []:=o_vc d [k] (by simp)
theorem o_ve {d k:Int} {ks:List Int} (h:wrongM d (k::ks)=0):1≤d∧d≤4096∧0≤k∧k≤1023:=by
 unfold wrongM at h
 split at h
 ·split at h
  ·rename_i h1 h2
   simp [okK] at h2
   omega
  ·omega
 ·omega

theorem o_vf (x:Nat):wval [x]=x:=by simp [wval]
theorem o_vg (cs:List Bool) (a:Nat) (k:Int) (p:Nat) (dd:Bool) (h1:1≤a) (h2:a≤4096) (hk:k≤4000000) (hp:p≤cs.length) (hn:cs.length≤4000000) :
  Eqn Tryz.prog o_kh [.p 0 0,.d (.int .i64 a),.d (.int .i64 k)] [tapeO cs p dd] (.tup [.d (.bool (powerR cs a (a+1) k.toNat p dd).1),.d (.int .i64 (powerR cs a (a+1) k.toNat p dd).2.1)]) [tapeO cs (powerR cs a (a+1) k.toNat p dd).2.2.1 (powerR cs a (a+1) k.toNat p dd).2.2.2]:=by
 refine Eqn.obj1 o_kj (o_ol _ _) ⟨rfl,fun _=>rfl⟩ ?_
 refine cc (c':=?z87) ?_ ?_
 case refine_1=>cbv<;>exact rfl
 have hh:=o_va cs a (a+1) p dd k (by omega) (by omega) (by omega) hk hp hn
 generalize powerR cs a (a+1) k.toNat p dd=R at *
 obtain ⟨R1,R2,R3,R4⟩:=R
 simp only at hh ⊢
 have e1:IntKind.u64.wrap (a:Int)=a:=wu64 (by omega) (by omega)
 have e2:IntKind.i64.wrap ((a:Int)+1)=((a+1:Nat):Int):=w64 (by omega) (by omega)
 have e3:IntKind.u64.wrap ((a+1:Nat):Int)=((a+1:Nat):Int):=wu64 (by omega) (by omega)
 obtain ⟨b,hb⟩:∃b,b=a+1:=⟨_,rfl⟩
 rw [←hb] at hh e2 e3
 refine G1B e1 ?_;try with_reducible exact tt
 refine CallS.pf 1 1 ⟨181,_⟩ [.int .u64 (a:Nat)] (o_o6 [a] (o_p2 (by omega)) (by simp)) (by first | rfl | (simp [e2,e3,o_vf,-Bool.exists_bool];done)) ?_
 (try (simp -implicitDefEqProofs [e2,e3,o_vf,-Bool.exists_bool];try simp (disch:=omega) only [w64,wu64]))
 repeat (first | refine AW.seq ?_ | refine AW.block ?_ | (refine AW.reg mix ?_;simp -implicitDefEqProofs [e2,e3,o_vf,-Bool.exists_bool];try simp (disch:=omega) only [w64,wu64]) | (refine need.of (by first | omega | kernel_rfl) ?_) | (refine AW.fin ?_;try simp -implicitDefEqProofs [e2,e3,o_vf,-Bool.exists_bool]))
 refine CallS.pf 2 1 ⟨181,_⟩ [.int .u64 (b:Nat)] (o_o6 [b] (o_p2 (by omega)) (by simp)) (by first | rfl | (simp [o_vf,-Bool.exists_bool];done)) ?_
 (try (simp -implicitDefEqProofs [o_vf,-Bool.exists_bool];try simp (disch:=omega) only [w64,wu64]))
 repeat (first | refine AW.seq ?_ | refine AW.block ?_ | (refine AW.reg mix ?_;simp -implicitDefEqProofs [o_vf,-Bool.exists_bool];try simp (disch:=omega) only [w64,wu64]) | (refine need.of (by first | omega | kernel_rfl) ?_) | (refine AW.fin ?_;try simp -implicitDefEqProofs [o_vf,-Bool.exists_bool]))
 refine CallS.o1 0 (hh) (R0B ?_);try with_reducible exact tt

def stepM (cs:List Bool) (d k:Int) (p:Nat) (dd:Bool):Bool×Int×Nat×Bool:=if wrongM d [k]=0 then powerR cs d.toNat (d.toNat+1) k.toNat p dd else (false,wrongM d [k],p,dd)

theorem o_vh (cs:List Bool) (d k:Int) (p:Nat) (dd:Bool) (hp:p≤cs.length) (hn:cs.length≤4000000) :
  Eqn Tryz.prog o_kb [.p 0 0,.d (.int .i64 d),.d (.int .i64 k)] [tapeO cs p dd] (.tup [.d (.bool (stepM cs d k p dd).1),.d (.int .i64 (stepM cs d k p dd).2.1)]) [tapeO cs (stepM cs d k p dd).2.2.1 (stepM cs d k p dd).2.2.2]:=by
 refine Eqn.obj1 o_kd (o_ol _ _) ⟨rfl,fun _=>rfl⟩ ?_
 refine cc (c':=?z88) ?_ ?_
 case refine_1=>cbv<;>exact rfl
 refine G0B ?_;try with_reducible exact tt
 refine CallS.pf 1 1 ⟨3,_⟩ [.int .i64 k] (o_vd d k) (by first | rfl | (simp [-Bool.exists_bool];done)) (R0B ?_);try with_reducible exact tt
 by_cases h:wrongM d [k]=0
 ·obtain ⟨h1,h2,h3,h4⟩:=o_ve h
  obtain ⟨d,rfl⟩:∃n:Nat,d=n:=⟨d.toNat,by omega⟩
  rw [stepM,if_pos h]
  have hh:=o_vg cs d k p dd (by omega) (by omega) (by omega) hp hn
  simp only [Int.toNat_natCast]
  generalize powerR cs d (d+1) k.toNat p dd=R at *
  obtain ⟨R1,R2,R3,R4⟩:=R
  simp only at hh ⊢
  refine AW.cond rfl (fun h=>?_) (fun h=>?_)
  ·simp [*] at h
  clear h
  refine G0B ?_;try with_reducible exact tt
  refine CallS.o1 0 (hh) (R0B ?_);try with_reducible exact tt
 ·rw [stepM,if_neg h]
  refine AW.cond rfl (fun h=>?_) (fun h=>?_)
  ·refine G0B ?_;try with_reducible exact tt
  ·simp [*] at h
end
section
open Go.RowKit
theorem o_vi (x:Rat):∀n:Nat,x^n=mkRat (x.num^n) (x.den^n)
 | 0=>by rw [Rat.pow_zero,Int.pow_zero,Nat.pow_zero];rfl
 | n+1=>by
  rw [Rat.pow_succ,o_vi x n]
  conv=>lhs;rhs;rw [←Rat.mkRat_self x]
  rw [Rat.mkRat_mul_mkRat,Int.pow_succ,Nat.pow_succ]

theorem o_vj (x:Rat) (n:Nat) (hx:0≤x.num) (hn:n≤8192) (hb1:bitsN x.num.natAbs≤1∨n≤8192/bitsN x.num.natAbs) (hb2:bitsN x.den≤1∨n≤8192/bitsN x.den) (hs:RS x 129) (hs1:size (x.num.natAbs^n)≤130) (hs2:size (x.den^n)≤130) :
  Eqn Tryz.prog o_kk [.d (rD x),.d (.int .i64 n)] [] (.tup [.d (rD (x^n)),.d (.int .i64 0)]) []:=by
 refine Eqn.pure o_km Plain.ok ?_
 have h1:=o_uu x.num.natAbs n hn hb1 hs.1
 have h2:=o_uu x.den n hn hb2 hs.2
 have h3:=o_uj x (by have:=hs.2;omega)
 have hneg:decide (x.num<0)=false:=by rw [decide_eq_false_iff_not];omega
 have hab:=o_pa x.num.natAbs (decide (x.num<0))
 have hng:=o_pb x.num.natAbs (decide (x.num<0))
 have h4:=o_ub false (x.num.natAbs^n) (x.num^n) (by rw [if_neg (by simp),Int.natCast_pow,Int.natAbs_of_nonneg hx])
 have e:(x.num^n).natAbs=x.num.natAbs^n:=Int.natAbs_pow _ _
 have h5:=o_ui (x.num^n) (x.den^n) (Nat.pow_pos x.den_pos) (by rw [e];omega) (by omega)
 rw [←o_vi] at h5
 refine cc (c':=?z89) ?_ ?_
 case refine_1=>cbv<;>exact rfl
 try simp only [rD,hneg] at hab hng h3 h5 ⊢
 generalize hz:x.num^n=z at *
 simp only [wD] at h4 h5
 refine G0 ?_;try with_reducible exact tt
 refine CallS.pu (hab) (R0 ?_);try with_reducible exact tt
 refine CallS.pu (h1) (R0 ?_);try with_reducible exact tt
 refine AW.cond rfl (fun h=>?_) (fun h=>?_)
 ·simp at h
 refine G0 ?_;try with_reducible exact tt
 refine CallS.pu (h3) (R0 ?_);try with_reducible exact tt
 refine CallS.pu (h2) (R0 ?_);try with_reducible exact tt
 refine AW.cond rfl (fun h=>?_) (fun h=>?_)
 ·simp at h
 refine G0 ?_;try with_reducible exact tt
 refine CallS.pu (hng) (R0 ?_);try with_reducible exact tt
 refine CallS.pu (h4) (R0 ?_);try with_reducible exact tt
 refine CallS.pu (h5) (R0 ?_);try with_reducible exact tt

theorem o_vk (n:Nat) (h:n<9223372036854775808):Eqn Tryz.prog o_7v [.d (.int .i64 n)] [] (.d (rD (n:Rat))) []:=by
 refine Eqn.pure o_7x (o_5e _) ?_
 have h1:=o_pc n h
 have e:rD (n:Rat) = .agg [natW n,.bool false,natW 0]:=by
  unfold rD
  rw [Rat.num_natCast,Rat.den_natCast,Int.natAbs_natCast]
  congr 4
 rw [e]
 refine cc (c':=?z90) ?_ ?_
 case refine_1=>cbv<;>exact rfl
 refine G0 ?_;try with_reducible exact tt
 refine CallS.pu (h1) (R0 ?_);try with_reducible exact tt
 exact Sub1.rat0

theorem o_vl (p q:Nat) (hp:p<9223372036854775808) (hq:q<9223372036854775808) (h0:0<q):Eqn Tryz.prog o_7j [.d (.int .i64 p),.d (.int .i64 q)] [] (.tup [.d (rD (mkRat p q)),.d (.int .i64 0)]) []:=by
 have hfr:Eqn Tryz.prog o_9a [.d (.agg [natW p,.bool false]),.d (.agg [natW q,.bool false])] [] (.tup [.d (rD (mkRat p q)),.d (.int .i64 0)]) []:=by
  refine Eqn.pure o_9c Plain.ok ?_
  have ha:=o_pa q false
  have hp1:=o_pa p false
  have hn1:=o_pb p false
  have hn2:=o_pb q false
  have hz:=o_o7 q
  have hq0:(q==0)=false:=by simp;omega
  rw [hq0] at hz
  have h4:=o_ub false p (p:Int) rfl
  have h5:=o_ui (p:Int) q h0 (by rw [Int.natAbs_natCast];exact Nat.le_trans (o_p8 (by omega)) (by omega)) (Nat.le_trans (o_p8 (by omega)) (by omega))
  have e2:wD (p:Int) = .agg [natW p,.bool false]:=by
   unfold wD
   rw [Int.natAbs_natCast]
   congr 4
  rw [e2] at h4 h5
  refine cc (c':=?z91) ?_ ?_
  case refine_1=>cbv<;>exact rfl
  try simp only [rD] at h5 ⊢
  refine G0 ?_;try with_reducible exact tt
  refine CallS.pu (ha) (R0 ?_);try with_reducible exact tt
  refine CallS.pu (hz) (R0 ?_);try with_reducible exact tt
  refine AW.cond rfl (fun h=>?_) (fun h=>?_)
  ·simp at h
  refine G0 ?_;try with_reducible exact tt
  refine CallS.pu (hn1) (R0 ?_);try with_reducible exact tt
  refine CallS.pu (hn2) (R0 ?_);try with_reducible exact tt
  refine CallS.pu (hp1) (R0 ?_);try with_reducible exact tt
  refine CallS.pu (h4) (R0 ?_);try with_reducible exact tt
  refine CallS.pu (ha) (R0 ?_);try with_reducible exact tt
  refine CallS.pu (h5) (R0 ?_);try with_reducible exact tt
 refine Eqn.pure o_7l Plain.ok ?_
 have h1:=o_pc p hp
 have h2:=o_pc q hq
 refine cc (c':=?z92) ?_ ?_
 case refine_1=>cbv<;>exact rfl
 try simp only [rD] at hfr ⊢
 refine G0 ?_;try with_reducible exact tt
 refine CallS.pu (h1) (R0 ?_);try with_reducible exact tt
 refine CallS.pu (h2) (R0 ?_);try with_reducible exact tt
 refine CallS.pu (hfr) (R0 ?_);try with_reducible exact tt
end
section
def dval:List Nat→Nat
 | []=>0
 | x::l=>x+10000*dval l
def dsmall (ws:List Nat):Prop:=∀x∈ws,x<10000

theorem o_vm:∀(a b:List Nat),dval (a++b)=dval a+10000^a.length*dval b:=by
 intro a
 induction a with
 | nil=>intro b;simp [dval]
 | cons x a ih=>intro b;simp only [List.cons_append,dval,List.length_cons];rw [ih,Nat.pow_succ,Nat.mul_add,←Nat.mul_assoc,Nat.mul_comm 10000 (10000^a.length)];omega
theorem o_vn:∀n,dval (List.replicate n 0)=0:=by
 intro n
 induction n with
 | zero=>rfl
 | succ n ih=>rw [List.replicate_succ,dval,ih]
theorem o_vo:∀{ws:List Nat},dsmall ws→dval ws<10000^ws.length:=by
 intro ws
 induction ws with
 | nil=>intro _;simp [dval]
 | cons x l ih =>
  intro h
  have h1:=h x (by simp)
  have h2:=ih (fun y hy=>h y (by simp [hy]))
  rw [dval,List.length_cons,Nat.pow_succ]
  omega

theorem o_vp (ws:List Nat):∀n,n≤ws.length→dval (ws.take (trimN ws n))=dval (ws.take n):=by
 intro n
 induction n with
 | zero=>intro _;rfl
 | succ n ih =>
  intro h
  unfold trimN
  split
  ·rename_i h0
   rw [ih (by omega),o_n2 _ _ (by omega),o_vm,h0]
   simp [dval]
  ·rfl
theorem dsmall.take {ws:List Nat} (h:dsmall ws) (n:Nat):dsmall (ws.take n):=fun x hx=>h x (List.mem_of_mem_take hx)

theorem o_vq {ws:List Nat} (h:dsmall ws) (ht:top1 ws) (h0:dval ws=0):ws=[]:=by
 rcases ws.eq_nil_or_concat with rfl | ⟨l,x,rfl⟩
 ·rfl
 ·exfalso
  have:=ht l.length (by simp)
  simp at this
  simp [o_vm,dval] at h0
  rcases Nat.mul_eq_zero.1 h0.2 with h | h
  ·exact absurd h (Nat.pos_iff_ne_zero.1 (Nat.pow_pos (by decide)))
  ·exact this h

theorem o_vr:∀{a b:List Nat},dsmall a→dsmall b→top1 a→top1 b→dval a=dval b→a=b:=by
 intro a
 induction a with
 | nil=>intro b _ hb _ tb h;exact (o_vq hb tb h.symm).symm
 | cons x a ih =>
  intro b ha hb ta tb h
  cases b with
  | nil=>exact absurd (o_vq ha ta h) (by simp)
  | cons y b =>
   have h1:=ha x (by simp)
   have h2:=hb y (by simp)
   simp only [dval] at h
   have e:x=y:=by omega
   subst e
   have e2:dval a=dval b:=by omega
   have e3:a=b:=ih (fun z hz=>ha z (by simp [hz])) (fun z hz=>hb z (by simp [hz])) (fun k hk=>by have:=ta (k+1) (by simp [hk]);simpa using this) (fun k hk=>by have:=tb (k+1) (by simp [hk]);simpa using this) e2
   rw [e3]

theorem o_vs:∀{ws:List Nat} {m:Nat},top1 ws→dval ws<10000^m→ws.length≤m:=by
 intro ws
 induction ws with
 | nil=>intro m _ _;exact Nat.zero_le _
 | cons x l ih =>
  intro m ht h
  cases m with
  | zero =>
   exfalso
   rw [Nat.pow_zero] at h
   rw [dval] at h
   cases l with
   | nil =>
    have:=ht 0 rfl
    simp [dval] at this h
    omega
   | cons y l =>
    have hw:dval (y::l)=0:=by omega
    have:(y::l).length≤0:=ih (m:=0) (fun k hk=>by have:=ht (k+1) (by simp [hk]);simpa using this) (by rw [hw];decide)
    simp at this
  | succ m =>
   rw [List.length_cons]
   have:l.length≤m:=by
    cases l with
    | nil=>exact Nat.zero_le _
    | cons y l =>
     refine ih (fun k hk=>by have:=ht (k+1) (by simp [hk]);simpa using this) ?_
     rw [dval,Nat.pow_succ] at h
     omega
   omega

theorem o_vt (f:Nat→Nat) (n:Nat):dval ((List.range (n+1)).map f)=dval ((List.range n).map f)+10000^n*f n:=by
 rw [List.range_succ,List.map_append,o_vm]
 simp [dval]
theorem o_vu (l:List Nat) (n:Nat):dval (l.take (n+1))=dval (l.take n)+10000^n*l.getD n 0:=by
 by_cases h:n<l.length
 ·rw [o_n2 _ _ h,o_vm,List.length_take,Nat.min_eq_left (Nat.le_of_lt h)]
  simp [dval]
 ·rw [List.take_of_length_le (by omega),List.take_of_length_le (by omega)]
  simp [List.getD,List.getElem?_eq_none (show l.length≤n by omega)]

def carryD (a b:List Nat):Nat→Nat
 | 0=>0
 | n+1=>(a.getD n 0+b.getD n 0+carryD a b n)/10000
def addD (a b:List Nat) (n:Nat):Nat:=(a.getD n 0+b.getD n 0+carryD a b n)%10000

theorem dsmall.getD {l:List Nat} (h:dsmall l) (n:Nat):l.getD n 0<10000:=by
 by_cases hn:n<l.length
 ·rw [List.getD,List.getElem?_eq_getElem hn];exact h _ (List.getElem_mem hn)
 ·simp [List.getD,List.getElem?_eq_none (show l.length≤n by omega)]
theorem o_vv {a b:List Nat} (ha:dsmall a) (hb:dsmall b):∀n,carryD a b n≤1:=by
 intro n
 induction n with
 | zero=>exact Nat.zero_le _
 | succ n ih =>
  have h1:=ha.getD n
  have h2:=hb.getD n
  simp only [carryD]
  omega
theorem o_vw (a b:List Nat):∀n,dval ((List.range n).map (addD a b))+10000^n*carryD a b n=dval (a.take n)+dval (b.take n):=by
 intro n
 induction n with
 | zero=>simp [dval,carryD]
 | succ n ih =>
  rw [o_vt,o_vu,o_vu]
  have:=Nat.div_add_mod (a.getD n 0+b.getD n 0+carryD a b n) 10000
  simp only [addD,carryD]
  rw [Nat.pow_succ]
  generalize 10000^n=P at *
  generalize (a.getD n 0+b.getD n 0+carryD a b n)/10000=q at *
  generalize (a.getD n 0+b.getD n 0+carryD a b n)%10000=r at *
  have e:P*(10000*q+r)=P*a.getD n 0+P*b.getD n 0+P*carryD a b n:=by rw [this];simp [Nat.mul_add]
  rw [Nat.mul_add,←Nat.mul_assoc] at e
  omega

def borrowD (a b:List Nat):Nat→Nat
 | 0=>0
 | n+1=>if a.getD n 0<b.getD n 0+borrowD a b n then 1 else 0
def subD (a b:List Nat) (n:Nat):Nat:=(a.getD n 0+10000-b.getD n 0-borrowD a b n)%10000
theorem o_vx (a b:List Nat):∀n,borrowD a b n≤1:=by
 intro n
 cases n with
 | zero=>exact Nat.zero_le _
 | succ n=>simp only [borrowD];split<;>omega
theorem o_vy {a b:List Nat} (ha:dsmall a) (hb:dsmall b):∀n,dval ((List.range n).map (subD a b))+dval (b.take n)=dval (a.take n)+10000^n*borrowD a b n:=by
 intro n
 induction n with
 | zero=>simp [dval,borrowD]
 | succ n ih =>
  rw [o_vt,o_vu,o_vu]
  have h1:=ha.getD n
  have h2:=hb.getD n
  have h3:=o_vx a b n
  have e:subD a b n+b.getD n 0+borrowD a b n=a.getD n 0+10000*borrowD a b (n+1):=by
   simp only [subD,borrowD]
   split<;>omega
  rw [Nat.pow_succ,Nat.mul_assoc]
  generalize 10000^n=P at *
  have e2:P*subD a b n+P*b.getD n 0+P*borrowD a b n=P*a.getD n 0+P*(10000*borrowD a b (n+1)):=by rw [←Nat.mul_add,←Nat.mul_add,e,Nat.mul_add]
  omega
theorem o_vz {f:Nat→Nat} (h:∀i,f i<10000) (n:Nat):dsmall ((List.range n).map f):=by
 intro x hx
 obtain ⟨i,_,rfl⟩:=List.mem_map.1 hx
 exact h i
theorem o_w0 (a b:List Nat) (i:Nat):addD a b i<10000:=Nat.mod_lt _ (by decide)
theorem o_w1 (a b:List Nat) (i:Nat):subD a b i<10000:=Nat.mod_lt _ (by decide)

theorem o_w2 {a b:List Nat} (ha:dsmall a) (hb:top1 b) (h:a.length<b.length):dval a<dval b:=by
 refine Nat.lt_of_lt_of_le (o_vo ha) ?_
 apply Nat.le_of_not_lt
 intro hlt
 have:=o_vs hb hlt
 omega
theorem o_w3 {l:List Nat} (h:dsmall l) (n:Nat):dval (l.take n)<10000^n:=by
 have:=o_vo (h.take n)
 rw [List.length_take] at this
 exact Nat.lt_of_lt_of_le this (Nat.pow_le_pow_right (by decide) (Nat.min_le_left _ _))
theorem o_w4 {a b:List Nat} (ha:dsmall a) (hb:dsmall b):∀n,cmpN a b n=if dval (a.take n)<dval (b.take n) then -1 else if dval (b.take n)<dval (a.take n) then 1 else 0:=by
 intro n
 induction n with
 | zero=>simp [cmpN,dval]
 | succ n ih =>
  rw [o_vu,o_vu]
  have h1:=o_w3 ha n
  have h2:=o_w3 hb n
  simp only [cmpN]
  generalize 10000^n=P at *
  generalize a.getD n 0=x at *
  generalize b.getD n 0=y at *
  by_cases hxy:x<y
  ·rw [if_pos hxy,if_pos]
   have:P*(x+1)≤P*y:=Nat.mul_le_mul_left _ hxy
   rw [Nat.mul_add] at this
   omega
  ·rw [if_neg hxy]
   by_cases hyx:y<x
   ·have:P*(y+1)≤P*x:=Nat.mul_le_mul_left _ hyx
    rw [Nat.mul_add] at this
    rw [if_pos hyx,if_neg (by omega),if_pos (by omega)]
   ·obtain rfl:x=y:=by omega
    rw [if_neg hyx,ih]
    simp only [Nat.add_lt_add_iff_right]

def decsF:Nat→Nat→List Nat
 | 0,_=>[]
 | f+1,n=>if n=0 then [] else (n%10000)::decsF f (n/10000)
def decs (n:Nat):List Nat:=decsF n n

theorem o_w5:∀(f n:Nat),n≤f→dval (decsF f n)=n∧dsmall (decsF f n)∧top1 (decsF f n)
 | 0,n,h=>by
  obtain rfl:n=0:=by omega
  exact ⟨rfl,by simp [dsmall,decsF],by intro k hk;simp [decsF] at hk⟩
 | f+1,n,h=>by
  by_cases h0:n=0
  ·subst h0
   simp only [decsF,if_true]
   exact ⟨rfl,by simp [dsmall],by intro k hk;simp at hk⟩
  ·obtain ⟨h1,h2,h3⟩:=o_w5 f (n/10000) (by omega)
   simp only [decsF,if_neg h0]
   refine ⟨by simp only [dval,h1];omega,fun x hx=>?_,fun k hk=>?_⟩
   ·rcases List.mem_cons.1 hx with rfl | hx
    ·omega
    ·exact h2 x hx
   ·cases hl:decsF f (n/10000) with
    | nil =>
     rw [hl] at h1 hk
     simp [dval] at h1 hk
     subst hk
     simp;omega
    | cons y r =>
     rw [hl] at hk h3
     simp at hk
     subst hk
     have:=h3 r.length rfl
     simpa using this
theorem o_w6 (n:Nat):dval (decs n)=n:=(o_w5 n n (Nat.le_refl _)).1
theorem o_w7 (n:Nat):dsmall (decs n):=(o_w5 n n (Nat.le_refl _)).2.1
theorem o_w8 (n:Nat):top1 (decs n):=(o_w5 n n (Nat.le_refl _)).2.2
theorem o_w9 {ws:List Nat} (h:dsmall ws) (ht:top1 ws):decs (dval ws)=ws:=o_vr (o_w7 _) h (o_w8 _) ht (o_w6 _)
theorem o_wa {n:Nat}:decs n=[]↔n=0:=by
 constructor
 ·intro h;have:=o_w6 n;rw [h] at this;exact this.symm
 ·rintro rfl;rfl


def sizeD (n:Nat):Nat:=(decs n).length
end
section
open Go.RowKit
theorem o_wb : MethOK Tryz.prog 162 "tallymark/chain.good" o_jw := fun v w => by kernel_rfl
theorem o_wc : MethOK Tryz.prog 163 "tallymark/chain.good" o_l5 := fun v w => by kernel_rfl
theorem o_wd : MethOK Tryz.prog 164 "tallymark/chain.good" o_lz := fun v w => by kernel_rfl
theorem o_we : MethOK Tryz.prog 162 "tallymark/chain.step" o_jz := fun v w => by kernel_rfl
theorem o_wf : MethOK Tryz.prog 163 "tallymark/chain.step" o_l8 := fun v w => by kernel_rfl
theorem o_wg : MethOK Tryz.prog 164 "tallymark/chain.step" o_m2 := fun v w => by kernel_rfl

theorem o_wh (a:Int):Eqn Tryz.prog o_jw [.d (.int .i64 a)] [] (.d (.bool (decide (1≤a∧a≤4096)))) []:=by
 refine Eqn.pure o_jy (o_5e _) ?_
 refine cc (c':=?z93) ?_ ?_
 case refine_1=>cbv<;>exact rfl
 refine G0 ?_;try with_reducible exact tt
 refine CallS.pu (o_vb a) (R0 ?_);try with_reducible exact tt
theorem o_wi (a:Int):Eqn Tryz.prog o_l5 [.d (.int .i64 a)] [] (.d (.bool (decide (0≤a∧a≤8)))) []:=by
 refine Eqn.pure o_l7 (o_5e _) ?_
 refine cc (c':=?z94) ?_ ?_
 case refine_1=>cbv<;>exact rfl
 refine G0 ?_;try with_reducible exact tt
 refine CallS.pu (o_uz a) (R0 ?_);try with_reducible exact tt

def kindD (k a:Int):D:=if k=1 then .ifc 162 (.int .i64 a) else if k=2 then .ifc 163 (.int .i64 a) else if k=3 then .ifc 164 (.int .i64 a) else .nilifc
theorem o_wj (k a w:Int):Eqn Tryz.prog o_8g [.d (.agg [.int .i64 k,.int .i64 a,.int .i64 w])] [] (.d (kindD k a)) []:=by
 refine Eqn.pure o_8i (o_5e _) ?_
 refine cc (c':=?z95) ?_ ?_
 case refine_1=>cbv<;>exact rfl
 try simp only [kindD]
 refine G0 ?_;try with_reducible exact tt
 refine AW.cond rfl (fun h=>?_) (fun h=>?_)
 ·have hk:k=1:=by simpa using h
  subst hk
  refine G0 ?_;try with_reducible exact tt
 have h1:¬k=1:=by simpa using h
 clear h
 refine G1 h1 ?_;try with_reducible exact tt
 refine AW.cond rfl (fun h=>?_) (fun h=>?_)
 ·have hk:k=2:=by simpa using h
  subst hk
  refine G0 ?_;try with_reducible exact tt
 have h2:¬k=2:=by simpa using h
 clear h
 refine G1 (fs h1 h2) ?_;try with_reducible exact tt
 refine AW.cond rfl (fun h=>?_) (fun h=>?_)
 ·have hk:k=3:=by simpa using h
  subst hk
  refine G0 ?_;try with_reducible exact tt
 have h3:¬k=3:=by simpa using h
 clear h
 refine G1 (fs h1 (fs h2 h3)) ?_;try with_reducible exact tt
end
section
open Go.RowKit
theorem o_wk (s:Int):Eqn Tryz.prog o_mb [.d (.int .i64 s)] [] (.d (.bool (decide (1≤s∧s≤5)))) []:=by
 refine Eqn.pure o_md (o_5e _) ?_
 refine cc (c':=?z96) ?_ ?_
 case refine_1=>cbv<;>exact rfl
 by_cases h:1≤s
 ·refine G1 h ?_;try with_reducible exact tt
 ·refine G1 h ?_;try with_reducible exact tt

theorem o_wl {x m:Nat} (h:x<2^(64*m)):size x≤m:=by
 apply o_ni (o_ny x)
 rw [o_nw,show (18446744073709551616:Nat)=2^64 by rfl,←Nat.pow_mul]
 exact h

theorem o_wm {a b m:Nat} (ha:size a≤m) (hb:size b≤m):size (a+b)≤m+1:=by
 refine o_wl ?_
 have h1:=o_n1 (o_nx a)
 have h2:=o_n1 (o_nx b)
 rw [o_nw,show (18446744073709551616:Nat)=2^64 by rfl,←Nat.pow_mul] at h1 h2
 have h3:(2:Nat)^(64*(words a).length)≤2^(64*m):=Nat.pow_le_pow_right (by omega) (by unfold size at ha;omega)
 have h4:(2:Nat)^(64*(words b).length)≤2^(64*m):=Nat.pow_le_pow_right (by omega) (by unfold size at hb;omega)
 have h5:(2:Nat)^(64*(m+1))=2^(64*m)*18446744073709551616:=by rw [show 64*(m+1)=64*m+64 by omega,Nat.pow_add]
 rw [h5]
 generalize (2:Nat)^(64*m)=z at *
 omega

theorem o_wn {x n m:Nat} (h:x<2^n) (hm:n≤64*m):size x≤m :=
 o_wl (Nat.lt_of_lt_of_le h (Nat.pow_le_pow_right (by omega) hm))
theorem o_wo (t:Nat):bitsN t≤64*size t:=by
 apply o_q8
 have h1:=o_n1 (o_nx t)
 rw [o_nw,show (18446744073709551616:Nat)=2^64 by rfl,←Nat.pow_mul] at h1
 exact h1
theorem o_wp (s t:Nat) (hs:s≤5) (ht:size t≤1000):Eqn Tryz.prog o_ms [.d (.int .i64 s),.d (.agg [natW t])] [] (.d (.int .i64 (shiftY s t))) []:=by
 refine Eqn.pure o_mu (o_5e _) ?_
 refine cc (c':=?z97) ?_ ?_
 case refine_1=>cbv<;>exact rfl
 have hb:=o_wo t
 refine G0 ?_;try with_reducible exact tt
 refine CallS.pu (o_qt t (by omega)) (R0 ?_);try with_reducible exact tt
 have e1:IntKind.i64.wrap ((bitsN t:Int)-1)=(bitsN t:Int)-1:=w64 (by omega) (by omega)
 have e2:IntKind.i64.wrap (2*(s:Int))=2*(s:Int):=w64 (by omega) (by omega)
 have e3:IntKind.i64.wrap ((bitsN t:Int)-1-2*(s:Int))=(bitsN t:Int)-1-2*(s:Int):=w64 (by omega) (by omega)
 have e4:max 0 ((bitsN t:Int)-1-2*(s:Int))=(shiftY s t:Int):=by unfold shiftY;omega
 simp [e1,e2,e3,e4]

theorem o_wq (s t:Nat) (hs:s≤5) (ht:size t≤1000):Eqn Tryz.prog o_mp [.d (.int .i64 s),.d (.agg [natW t])] [] (.d (.agg [natW (moreY s t)])) []:=by
 refine Eqn.pure o_mr (o_5e _) ?_
 refine cc (c':=?z98) ?_ ?_
 case refine_1=>cbv<;>exact rfl
 have hq:=Nat.div_le_self t (2^s)
 have hq2:=Nat.div_mul_le_self t (2^s)
 have hm:moreY s t=t+(if t/2^s*2^s<t then t/2^s+1 else t/2^s):=rfl
 rw [hm]
 have s1:=o_oq hq
 have s2:=o_oq hq2
 have s1':size 1≤1:=o_p8 (by omega)
 refine G0 ?_;try with_reducible exact tt
 refine CallS.pu (o_r1 t s (by omega) (by omega)) (R0 ?_);try with_reducible exact tt
 refine CallS.pu (o_p0 (t/2^s) s (by omega) (by omega)) (R0 ?_);try with_reducible exact tt
 generalize hQ:t/2^s=q at *
 generalize q*2^s=b at *
 refine CallS.pu (o_o9 b t (by omega) (by omega)) (R0 ?_);try with_reducible exact tt
 have hb:size (q+1)≤1001:=by
  have:=o_wm (a:=q) (b:=1) (m:=1000) (by omega) (by omega)
  omega
 by_cases hlt:b<t
 ·simp only [if_pos hlt]
  refine AW.cond rfl (fun h=>?_) (fun h=>?_)
  ·refine G0 ?_;try with_reducible exact tt
   refine CallS.pf 4 1 ⟨181,_⟩ [.int .u64 (1:Nat)] (o_o6 [1] (o_p2 (by omega)) (by simp)) (by first | rfl | (simp;done)) (R0 ?_);try with_reducible exact tt
   refine CallS.pu (o_on q 1 (by omega) (by omega)) (R0 ?_);try with_reducible exact tt
   refine CallS.pu (o_on t (q+1) (by omega) (by omega)) (R0 ?_);try with_reducible exact tt
  ·simp [o_p3,hlt] at h
 ·simp only [if_neg hlt]
  refine AW.cond rfl (fun h=>?_) (fun h=>?_)
  ·simp [o_p3,hlt] at h
  ·refine G0 ?_;try with_reducible exact tt
   refine CallS.pu (o_on t q (by omega) (by omega)) (R0 ?_);try with_reducible exact tt

def plD (p:Pl):D:=.agg [.int .i64 p.x,.int .i64 p.shift,natW p.value,natW p.reply]

theorem o_wr {s t:Nat}:moreY s t≤4*t:=by
 unfold moreY
 have h1:=Nat.div_le_self t (2^s)
 split
 ·rename_i h
  have:0<t:=by omega
  omega
 ·omega

theorem o_ws (s:Nat) (p:Pl) (hs:s≤5) (hx:p.x≤100000) (h1:p.shift≤8192) (h2:size p.value≤900) (h3:size p.reply≤900) :
  Eqn Tryz.prog o_mm [.d (plD p),.d (.int .i64 s)] [] (.d (plD (nextY s p))) []:=by
 refine Eqn.pure o_mo (o_5e _) ?_
 obtain ⟨x,sh,v,r⟩:=p
 simp only at hx h1 h2 h3
 refine cc (c':=?z99) ?_ ?_
 case refine_1=>cbv<;>exact rfl
 try simp only [plD,nextY]
 have s1:size 1≤1:=o_p8 (by omega)
 have hsz:size (1*2^sh)≤129:=o_wn (n:=sh+1) (by rw [Nat.one_mul];exact Nat.pow_lt_pow_right (by omega) (Nat.lt_succ_self _)) (by omega)
 have hv:=o_wm (m:=900) h2 (by omega:size (1*2^sh)≤900)
 refine G0 ?_;try with_reducible exact tt
 refine CallS.pf 2 1 ⟨181,_⟩ [.int .u64 (1:Nat)] (o_o6 [1] (o_p2 (by omega)) (by simp)) (by first | rfl | (simp;done)) (R0 ?_);try with_reducible exact tt
 refine CallS.pu (o_p0 1 sh (by omega) h1) (R0 ?_);try with_reducible exact tt
 rw [Nat.one_mul] at hsz hv
 generalize 2^sh=st at *
 refine CallS.pu (o_on v st (by omega) (by omega)) (R0 ?_);try with_reducible exact tt
 refine CallS.pu (o_o9 (v+st) r (by omega) (by omega)) (R0 ?_);try with_reducible exact tt
 have hge:(0≤cmpZ (v+st) r)↔r≤v+st:=by
  unfold cmpZ;split<;>(try split)<;>omega
 by_cases hr:r≤v+st
 ·simp only [if_pos hr]
  have ew:IntKind.i64.wrap ((x:Int)+1)=(x:Int)+1:=w64 (by omega) (by omega)
  refine AW.cond rfl (fun h=>?_) (fun h=>?_)
  ·have hm:=o_wr (s:=s) (t:=r)
   have hms:=o_oq hm
   have hrr:=o_wm h3 h3
   have hmsz:size (moreY s r)≤1000:=by
    have:=o_wm hrr hrr
    have h4:r+r+(r+r)=4*r:=by omega
    rw [h4] at this
    omega
   refine G1 ew ?_;try with_reducible exact tt
   refine CallS.pu (o_wq s r hs (by omega)) (R0 ?_);try with_reducible exact tt
   refine CallS.pu (o_wp s (moreY s r) hs hmsz) (R0 ?_);try with_reducible exact tt
  ·simp [hge,hr] at h
 ·simp only [if_neg hr]
  refine AW.cond rfl (fun h=>?_) (fun h=>?_)
  ·simp [hge,hr] at h
  ·refine G0 ?_;try with_reducible exact tt
end
section
open Go.RowKit
theorem o_wt (s:Nat):Eqn Tryz.prog n_yu_walk [.d (.int .i64 s)] [] (.fn (.func o_mk) [.p 0 0]) [⟨3,[.d (.int .i64 s)]⟩]:=by
 refine Eqn.newX r_yu_walk rfl ⟨rfl,fun _=>rfl⟩ (fun n=>rfl) ?_
 refine cc (c':=?z100) ?_ ?_
 case refine_1=>cbv<;>exact rfl
 refine G0 ?_;try with_reducible exact tt
 exact ⟨0,Sub1.refl _,_,rfl,rfl,Subs.refl _⟩

structure WalkS where
 r0:C
 r1:C
 g:C
 os:List O
 call:Option (Nat×List Nat×Option Nat)
 o4:O
 cy:X
 r5:C
 r6:C
 ids:Nat×Nat
 calm:Bool
 res:Nat
 nt:Nat
def callS (o:Oper):Option (Nat×List Nat×Option Nat):=match o.op,o.guard with
 | .call c,none=>match c.callee,c.args.toList with
  | .value (.tmp f),[.tmp x,.tmp y]=>some (f,[x,y],o.dst)
  | _,_=>none
 | _,_=>none
def walkS (P:Program) (f:FuncId):Option WalkS:=match P.funcs[f]? with
 | some fn=>match fn.body with
  | some (.seq r0 (.seq r1 (.block i0 (.loop (.seq g (.seq (.block i1 (.seq (.seq (.region _ ops false) (.cond cy .ret .skip)) r5)) r6))))))=>match ops.toList with
   | [o0,o1,o2,o3,o4]=>some ⟨resolveC P r0,resolveC P r1,resolveC P g,[o0,o1,o2].map (resolveO P ops),callS o3,resolveO P ops o4,X.of cy,resolveC P r5,resolveC P r6,(i0,i1),[o0,o1,o2].all notDefer&&[o4].all notDefer,fn.results.size,fn.ntmps⟩
   | _=>none
  | _=>none
 | none=>none
theorem o_wu {P:Program} {f:FuncId} {s:WalkS} (h:walkS P f=some s):∃(fn:Func) (r0 r1 g r5 r6:Code) (i id:Nat) (ops:Array Oper) (o0 o1 o2 o3 o4:Oper) (cy:Operand),
  P.funcs[f]?=some fn∧fn.body=some (.seq r0 (.seq r1 (.block s.ids.1 (.loop (.seq g (.seq (.block s.ids.2 (.seq (.seq (.region id ops false) (.cond cy .ret .skip)) r5)) r6))))))∧ops.toList=[o0,o1,o2,o3,o4] ∧
  resolveC P r0=s.r0∧resolveC P r1=s.r1∧resolveC P g=s.g∧[o0,o1,o2].map (resolveO P ops)=s.os∧callS o3=s.call∧resolveO P ops o4=s.o4∧X.of cy=s.cy∧resolveC P r5=s.r5∧resolveC P r6=s.r6∧([o0,o1,o2].all notDefer&&[o4].all notDefer)=s.calm∧fn.results.size=s.res∧fn.ntmps=s.nt:=by
 unfold walkS at h
 split at h
 ·rename_i fn hf
  split at h
  ·rename_i r0 r1 i0 g i1 id ops cy r5 r6 hb
   split at h
   ·rename_i o0 o1 o2 o3 o4 ho
    cases h
    exact ⟨fn,r0,r1,g,r5,r6,0,id,ops,o0,o1,o2,o3,o4,cy,hf,hb,ho,rfl,rfl,rfl,rfl,rfl,rfl,rfl,rfl,rfl,rfl,rfl,rfl⟩
   ·cases h
  ·cases h
 ·cases h
theorem o_wv {o:Oper} {f x y:Nat} {d:Option Nat} (h:callS o=some (f,[x,y],d)):∃c,o.op = .call c∧o.guard=none∧c.callee = .value (.tmp f)∧c.args.toList=[.tmp x,.tmp y]∧o.dst=d:=by
 unfold callS at h
 split at h
 ·rename_i c ho hg
  split at h
  ·rename_i hc ha
   cases h
   exact ⟨c,ho,hg,hc,ha,rfl⟩
  ·cases h
 ·cases h

structure AtS where
 a1:C
 a2:C
 a3:C
 a4:C
 g:X
 ps:List Nat
 asg:C
 bd:C
 a5:List O
 id:Nat
 calm:Bool
 rs:List RV
 nt:Nat
def atS (P:Program) (f:FuncId):Option AtS:=match P.funcs[f]? with
 | some fn=>match fn.body with
  | some (.seq a1 (.seq a2 (.seq a3 (.seq (.seq a4 (.block id (.rangeFunc g ps asg bd))) (.seq (.region _ ops false) .ret))))) =>
   some ⟨resolveC P a1,resolveC P a2,resolveC P a3,resolveC P a4,X.of g,ps.toList,resolveC P asg,resolveC P bd,ops.toList.map (resolveO P ops),id,Code.calm asg&&(Code.calm bd&&ops.toList.all notDefer),fn.results.toList.map (resolveR P),fn.ntmps⟩
  | _=>none
 | none=>none
theorem o_ww {P:Program} {f:FuncId} {s:AtS} (h:atS P f=some s):∃(fn:Func) (a1 a2 a3 a4 asg bd:Code) (g:Operand) (ps:Array Nat) (id:Nat) (ops:Array Oper),
  P.funcs[f]?=some fn∧fn.body=some (.seq a1 (.seq a2 (.seq a3 (.seq (.seq a4 (.block s.id (.rangeFunc g ps asg bd))) (.seq (.region id ops false) .ret))))) ∧
  resolveC P a1=s.a1∧resolveC P a2=s.a2∧resolveC P a3=s.a3∧resolveC P a4=s.a4∧X.of g=s.g∧ps.toList=s.ps∧resolveC P asg=s.asg∧resolveC P bd=s.bd∧ops.toList.map (resolveO P ops)=s.a5∧(Code.calm asg&&(Code.calm bd&&ops.toList.all notDefer))=s.calm∧fn.results.toList.map (resolveR P)=s.rs∧fn.ntmps=s.nt:=by
 unfold atS at h
 split at h
 ·rename_i fn hf
  split at h
  ·rename_i a1 a2 a3 a4 id g ps asg bd id' ops hb
   cases h
   exact ⟨fn,a1,a2,a3,a4,asg,bd,g,ps,id',ops,hf,hb,rfl,rfl,rfl,rfl,rfl,rfl,rfl,rfl,rfl,rfl,rfl,rfl⟩
  ·cases h
 ·cases h

def C.l:C→C
 | .seq a _=>a
 | c=>c
def C.r:C→C
 | .seq _ b=>b
 | c=>c
def C.b:C→C
 | .block _ a | .loop a=>a
 | c=>c
def C.os:C→List O
 | .reg _ l=>l
 | _=>[]
def cAsg:C:=.seq (.reg false [⟨some 7,.mv (.t 24),none,[]⟩]) (.reg false [⟨some 8,.new 307 [.int .i64 0,.int .i64 0,.nilsl,.nilsl],none,[]⟩,⟨none,.store 4 (.t 8) (.t 25),none,[0,0]⟩])
def cBd:C:=.block 2 (.seq (.reg false [⟨some 26,.load true 4 (.t 8),none,[]⟩,⟨none,.store 4 (.t 6) (.t 26),none,[0,0]⟩])
 (.seq (.reg false [⟨some 27,.mv (.t 7),none,[]⟩,⟨some 28,.load false 1 (.t 3),none,[]⟩,⟨some 29,.bin .eql (.t 27) (.t 28),none,[0,1]⟩]) (.cond (.t 29) (.exit 1) .skip)))
theorem at_s:atS Tryz.prog o_mh=some ⟨o_mi.l,o_mi.r.l,o_mi.r.r.l,o_mi.r.r.r.l.l,.t 23,[24,25],cAsg,cBd,o_mi.r.r.r.r.l.os,1,true,[.cell 4 true 4,.t 5],31⟩:=by kernel_rfl
abbrev cWb:C:=o_ml.r.r.b.b
theorem o_wx:walkS Tryz.prog o_mk=some ⟨o_ml.l,o_ml.r.l,cWb.l,(cWb.r.l.b.l.l.os).take 3,some (15,[16,17],some 18),((cWb.r.l.b.l.l.os).drop 4).headD ⟨none,.bad,none,[]⟩,.t 19,cWb.r.l.b.r,cWb.r.r,(0,1),true,0,23⟩:=by kernel_rfl

abbrev kO (K:Nat):Ob:=⟨3,[.d (.int .i64 K)]⟩
abbrev plO (c:List V):Ob:=⟨307,c⟩

def Tr (i:Nat) (p:List D):List V:=[.junk,.junk,.junk,.p 0 0,.junk,.junk,.p 2 0]++List.replicate 17 .junk++[.d (.int .i64 i),.d (.agg p)]++List.replicate 5 .junk

theorem o_wy (l n K i:Nat) (c:List V) (p:List D) (hp:p.length=4):AWr Tryz.prog (some l) n 3 cAsg (thenQ (fun T H=>T=((Tr i p).set 7 (.d (.int .i64 i))).set 8 (.p 3 0)∧H=[some (kO K),none,some (plO c),some (plO (p.map .d))]) noQ) (Tr i p) [some (kO K),none,some (plO c)]:=by
 obtain ⟨p1,p2,p3,p4,rfl⟩:∃a b c d,p=[a,b,c,d]:=by
  match p,hp with
  | [a,b,c,d],_=>exact ⟨a,b,c,d,rfl⟩
 simp only [cAsg,Tr]
 refine AWr.seq (AWr.reg ?_)
 simp
 refine AWr.reg ?_
 simp

theorem o_wz (l n K i:Nat) (c:List V) (hc:c.length=4) (p:List D) (hp:p.length=4):AWr Tryz.prog (some l) n 3 cBd (fun e T H=>H=[some (kO K),none,some (plO (p.map .d)),some (plO (p.map .d))]∧e=if i=K then .exit 1 else .normal) (((Tr i p).set 7 (.d (.int .i64 i))).set 8 (.p 3 0)) [some (kO K),none,some (plO c),some (plO (p.map .d))]:=by
 obtain ⟨p1,p2,p3,p4,rfl⟩:∃a b c d,p=[a,b,c,d]:=by
  match p,hp with
  | [a,b,c,d],_=>exact ⟨a,b,c,d,rfl⟩
 obtain ⟨c1,c2,c3,c4,rfl⟩:∃a b c' d,c=[a,b,c',d]:=by
  match c,hc with
  | [a,b,c,d],_=>exact ⟨a,b,c,d,rfl⟩
 simp only [cBd,Tr]
 refine AWr.block ?_
 refine AWr.seq (AWr.reg ?_)
 simp
 refine AWr.seq (AWr.reg ?_)
 by_cases h:i=K
 ·subst h
  simp
  refine AWr.cond rfl (fun h=>?_) (fun h=>?_)
  ·refine AWr.exit ?_
   simp
  ·simp at h
 ·have h':¬(i:Int)=K:=by omega
  simp [h,h']
  refine AWr.cond rfl (fun h=>?_) (fun h=>?_)
  ·simp at h
   omega
  ·refine AWr.skip ?_
   simp

theorem o_x0 {m:Mem} {n:Nat} {o:Ob} (h:m.obj n o):∃b,m.ρ n=some b:=by
 obtain ⟨b,_,_,h1,_⟩:=h;exact ⟨b,h1⟩

def RoundR (K i:Nat) (p:List D) (m:Mem) (l:Nat) (rec:LoopState→Option Code→Loop) (e:Ending) (w':World):Prop :=
 ∃m':Mem,m'.w=w'∧m'.base∧m'.obj 0 (kO K)∧m'.obj 2 (plO (p.map .d)) ∧
  if i=K then e = .returned (.bool false)∧(m.at (m.w.putObj l (.loop (rec .done (some (.exit 1)))))).le m' (· < 3) else e = .returned (.bool true)∧m.le m' (· < 3)

theorem o_x1 {asg bd:Code} (hasg:resolveC Tryz.prog asg=cAsg) (hbd:resolveC Tryz.prog bd=cBd) (ca:Code.calm asg=true) (cb:Code.calm bd=true) {fn df:Nat} {tmps:Array Value} {rec:LoopState→Option Code→Loop}
  (hrec:rec=fun st pe=>{ state:=st,pending:=pe,fn,tmps,params:=#[24,25],assign:=asg,body:=bd,defers:=df }) (n K i:Nat) (p:List D) (hp:p.length=4) {m:Mem} {l:Nat} {c:List V} (mb:m.base) (h0:m.obj 0 (kO K)) (h2:m.obj 2 (plO c)) (hc:c.length=4)
  (hinj:∀b,m.ρ 0=some b→m.ρ 2≠some b) (htop:∀n,n≠0→n≠2→m.ρ n=none) (t3:(V.p 0 0).rep m (tmps.getD 3 undef)) (t6:(V.p 2 0).rep m (tmps.getD 6 undef)) (hsz:tmps.size=31) (hlo:m.loose l) (hl:m.w.heap[l]?=some (.loop (rec .ready none))) {v:Value} (hv:(V.d (.agg p)).rep m v) :
  YieldAt Fence.wide n Tryz.prog l #[.int .i64 i,v] m.w (RoundR K i p m l rec):=by
 have hy:=run_yield (P:=Tryz.prog) (args:=#[.int .i64 i,v]) hl (by rw [hrec];rfl)
 refine ⟨_,_,_,_,hy,?_⟩
 have ht:((rec .ready none).params.zip #[.int .i64 i,v]).foldl (fun tmps (t,a)=>tmps.setIfInBounds t a) (rec .ready none).tmps=(tmps.setIfInBounds 24 (.int .i64 i)).setIfInBounds 25 v:=by
  rw [hrec];simp
 rw [ht,show (rec .ready none).assign=asg by rw [hrec],show (rec .ready none).body=bd by rw [hrec]]
 clear hy ht
 have sat:Sat m ⟨(tmps.setIfInBounds 24 (.int .i64 i)).setIfInBounds 25 v,[]⟩ (Tr i p) [some (kO K),none,some (plO c)]:=by
  refine ⟨mb,fun s=>?_,fun n ob h=>?_,fun n k b ln lk h1 h3=>?_,fun n h=>htop n (by simp at h;omega) (by simp at h;omega),by simp [Tr,hsz],rfl⟩
  ·have g:((tmps.setIfInBounds 24 (.int .i64 i)).setIfInBounds 25 v).getD s undef=if s=25 then v else if s=24 then .int .i64 i else tmps.getD s undef:=by
    rw [Array.getD_eq_getD_getElem?,Array.getElem?_setIfInBounds]
    by_cases e1:s=25
    ·subst e1;simp [hsz]
    ·rw [if_neg (by omega),if_neg e1,Array.getElem?_setIfInBounds]
     by_cases e2:s=24
     ·subst e2;simp [hsz]
     ·rw [if_neg (by omega),if_neg e2,Array.getD_eq_getD_getElem?]
   have g2:(Tr i p).getD s .junk=if s=25 then .d (.agg p) else if s=24 then .d (.int .i64 i) else if s=3 then .p 0 0 else if s=6 then .p 2 0 else .junk:=by
    rcases Nat.lt_or_ge s 31 with hs | hs
    ·have:∀s,s<31→(Tr i p).getD s .junk=if s=25 then .d (.agg p) else if s=24 then .d (.int .i64 i) else if s=3 then .p 0 0 else if s=6 then .p 2 0 else .junk:=by
      intro s hs
      iterate 31 (rcases s with _ | s;· rfl)
      omega
     exact this s hs
    ·rw [if_neg (by omega),if_neg (by omega),if_neg (by omega),if_neg (by omega),List.getD_eq_getElem?_getD,List.getElem?_eq_none (by simp [Tr];omega)];rfl
   rw [g,g2]
   split
   ·exact hv
   ·split
    ·exact V.rep_int.2 rfl
    ·split
     ·rename_i e;subst e;exact t3
     ·split
      ·rename_i e;subst e;exact t6
      ·unfold V.rep;trivial
  ·rcases n with _ | _ | _ | n
   ·simp at h;subst h;exact h0
   ·simp at h
   ·simp at h;subst h;exact h2
   ·simp at h
  ·have l2:∀n,live [some (kO K),none,some (plO c)] n→n=0∨n=2:=fun n h=>by
    rcases n with _ | _ | _ | n
    ·exact .inl rfl
    ·simp [live] at h
    ·exact .inr rfl
    ·simp [live] at h
   rcases l2 n ln with rfl | rfl<;>rcases l2 k lk with rfl | rfl
   ·rfl
   ·exact (hinj b h1 h3).elim
   ·exact (hinj b h3 h1).elim
   ·rfl
 have htop3:∀n,3≤n→m.ρ n=none:=fun n h=>htop n (by omega) (by omega)
 refine roundIn_of_wpIn trivial (wpIn_mono (o_wy l n K i c p hp asg hasg ca m m _ sat (Mem.le.refl _ _) htop3 (by simp)) ?_)
 rintro e a1 w1 ⟨T1,H1,m1,rfl,hq,sat1,hle1,_⟩
 cases e with
 | normal =>
  obtain ⟨rfl,rfl⟩:=hq
  obtain ⟨lo1,hl1⟩:=hlo.keep hle1
  have hl1':=hl1.trans hl
  refine ⟨_,run_beginRound hl1' (by rw [hrec]),?_⟩
  have nc:∀(r:Loop) c t f,Obj.loop r≠.cells c t f:=by intro r c t f h;cases h
  have hle2:=hlo.le hle1 (o:=.loop { rec .ready none with state:=.busy }) (o':=.loop { rec .ready none with state:=.busy }) hl (nc _) (nc _) (nc _) rfl
  have sat2:=lo1.sat (.loop { rec .ready none with state:=.busy }) sat1
  refine wpIn_mono (o_wz l n K i c hc p hp bd hbd cb (m.at (m.w.putObj l (.loop { rec .ready none with state:=.busy }))) _ a1 sat2 hle2 htop3 (by simp)) ?_
  rintro e a3 w3 ⟨T3,H3,m3,rfl,⟨rfl,rfl⟩,sat3,hle3,_⟩
  obtain ⟨lo3,hl3⟩:=(hlo.put (.loop { rec .ready none with state:=.busy })).keep hle3
  rw [World.putObj_heap_same hlo.lt] at hl3
  have hend:=fun jump=>run_endRound (P:=Tryz.prog) jump hl3
  have hle4:=fun o (ho:∀c t f,o≠Obj.cells c t f)=>(hlo.put (.loop { rec .ready none with state:=.busy })).le hle3 (o:=o) (o':=o) (World.putObj_heap_same hlo.lt) (nc _) ho ho rfl
  have sat4:=fun o=>lo3.sat o sat3
  by_cases hik:i=K
  ·simp only [if_pos hik]
   refine ⟨_,_,hend (some (.exit 1)),⟨_,rfl,(sat4 _).base,(sat4 _).obj 0 _ rfl,(sat4 _).obj 2 _ rfl,?_⟩⟩
   rw [if_pos hik]
   refine ⟨rfl,?_⟩
   have:=hle4 (.loop { rec .ready none with state:=.done,pending:=some (.exit 1) }) (nc _)
   simp only [o_6f] at this
   rw [hrec] at this ⊢
   exact this
  ·simp only [if_neg hik]
   refine ⟨_,_,hend none,⟨_,rfl,(sat4 _).base,(sat4 _).obj 0 _ rfl,(sat4 _).obj 2 _ rfl,?_⟩⟩
   rw [if_neg hik]
   refine ⟨rfl,?_⟩
   have:=hle4 (.loop (rec .ready none)) (nc _)
   simp only [o_6f,o_6g hl] at this
   rw [hrec] at this ⊢
   exact this
 | _=>exact hq.elim
end
section
open Go.RowKit
theorem Sat.put {m:Mem} {a:Act} {T:List V} {H:List (Option Ob)} (sat:Sat m a T H) (s:Nat) {x:V} {v:Value} (hv:x.rep m v):Sat m (a.put (some s) v) (T.set s x) H:=by
 refine ⟨sat.base,fun i=>?_,sat.obj,sat.inj,sat.top,by rw [o_48];simpa using sat.size,by rw [o_49];exact sat.defers⟩
 have h1:T.set s x=putT T (some s) x:=rfl
 rw [h1,o_4a,o_47,sat.size]
 split
 ·exact hv
 ·exact sat.slots i

abbrev sO (s:Nat):Ob:=⟨3,[.d (.int .i64 s)]⟩
def plC (p:Pl):List D:=[.int .i64 p.x,.int .i64 p.shift,natW p.value,natW p.reply]
abbrev fnY (l:Nat):V:=.fn (.yield l) []
def Tw0 (l:Nat):List V:=[fnY l,.p 3 0,.junk,.p 5 0]++List.replicate 19 .junk
def Tw (l i:Nat):List V:=[fnY l,.p 3 0,.junk,.p 5 0,.d (.int .i64 i)]++List.replicate 18 .junk
def Hw (K s i:Nat) (c:List V):List (Option Ob):=[some (kO K),none,some (plO c),some (sO s),none,some (plO ((plC (placeY s i)).map .d))]

theorem o_x2 {s k:Nat} (h1:1≤s) (h5:s≤5) (hk:k≤1024):(placeY s k).x≤100000∧(placeY s k).shift≤8192∧size (placeY s k).value≤900∧size (placeY s k).reply≤900:=by
 obtain ⟨a1,a2,a3,a4,a5⟩:=o_qc h1 k
 refine ⟨by omega,by omega,?_,?_⟩
 ·refine Nat.le_trans (o_wn (n:=11+(2*s+k)) (m:=20) (Nat.lt_of_le_of_lt a4 ?_) (by omega)) (by omega)
  have hp:=Nat.two_pow_pos (2*s+k)
  rw [Nat.pow_add 2 11]
  generalize 2^(2*s+k)=z at *
  have h1:k*z≤1024*z:=Nat.mul_le_mul_right _ hk
  have h2:(2:Nat)^11*z=2048*z:=rfl
  rw [h2]
  omega
 ·exact Nat.le_trans (o_wn (n:=2*s+k+1) (m:=20) (Nat.lt_of_le_of_lt a2 (Nat.pow_lt_pow_right (by omega) (Nat.lt_succ_self _))) (by omega)) (by omega)

theorem w_r0 (l K s:Nat) (h1:1≤s) (h5:s≤5) (c:List V) (hc:V.lowl 6 c=true):AW Tryz.prog 4 o_ml.l (thenQ (fun T H=>wk 6 T (Tw0 l)∧wkH 6 H (Hw K s 0 c)) noQ) ([fnY l,.p 3 0]++List.replicate 21 .junk) [some (kO K),none,some (plO c),some (sO s)]:=by
 simp only [o_ml,C.l,Tw0,Hw]
 have e1:IntKind.i64.wrap (2*(s:Int))=2*(s:Int):=w64 (by omega) (by omega)
 have e2:((2:Int)*s).toNat=2*s:=by omega
 have e3:(2:Int)^(2*s)=(2^(2*s):Nat):=by rw [Int.natCast_pow];rfl
 have hlt:2^(2*s)≤2^10:=Nat.pow_le_pow_right (by omega) (by omega)
 have hp0:placeY s 0=⟨0,0,0,2^(2*s)⟩:=rfl
 rw [hp0]
 generalize 2^(2*s)=q at *
 have e4:IntKind.u64.wrap (q:Int)=q:=wu64 (by omega) (by omega)
 have e5:(2:Int)*s≤64:=by omega
 refine G1 (fs e1 (fs e2 (fs e3 (fs e4 e5)))) ?_;try with_reducible exact tt
 refine CallS.pf 4 1 ⟨181,_⟩ [.int .u64 q] (o_o6 [q] (o_p2 (by omega)) (by simp)) (by first | rfl | (simp;done)) (R0 ?_);try with_reducible exact tt
 exact ⟨Subs.cons (Sub1.refl _) (Subs.cons (Sub1.refl _) (Subs.cons Sub1.nil (Subs.of (by simp [wval])))),rfl⟩

theorem w_r1 (l K s:Nat) (c:List V) (hc:V.lowl 6 c=true):AW Tryz.prog 4 o_ml.r.l (thenQ (fun T H=>wk 6 T (Tw l 0)∧wkH 6 H (Hw K s 0 c)) noQ) (Tw0 l) (Hw K s 0 c):=by
 simp only [o_ml,C.l,C.r,Tw0,Tw,Hw]
 have hp:V.lowl 6 ((plC (placeY s 0)).map V.d)=true:=rfl
 refine G1 (fs hc hp) ?_;try with_reducible exact tt

theorem w_g (l K s i:Nat) (hi:i≤1023) (c:List V) (hc:V.lowl 6 c=true):AW Tryz.prog 4 cWb.l (thenQ (fun T H=>wk 6 T (Tw l i)∧wkH 6 H (Hw K s i c)) noQ) (Tw l i) (Hw K s i c):=by
 simp only [o_ml,C.l,C.r,C.b,Tw,Hw]
 have hp:V.lowl 6 ((plC (placeY s i)).map V.d)=true:=rfl
 have h1:(i:Int)≤1023:=by omega
 refine G1 (fs hc (fs hp h1)) ?_;try with_reducible exact tt
 refine AW.cond rfl (fun h=>?_) (fun h=>?_)
 ·refine G1 (fs hc hp) ?_;try with_reducible exact tt
 ·simp [h1] at h

theorem w_r5 (l K s i:Nat) (h1:1≤s) (h5:s≤5) (hi:i≤1023) (c:List V) (hc:V.lowl 6 c=true):AW Tryz.prog 4 cWb.r.l.b.r (thenQ (fun T H=>wk 6 T (Tw l i)∧wkH 6 H (Hw K s (i+1) c)) noQ) (Tw l i) (Hw K s i c):=by
 simp only [o_ml,C.l,C.r,C.b,Tw,Hw]
 obtain ⟨b1,b2,b3,b4⟩:=o_x2 h1 h5 (k:=i) (by omega)
 have hn:=o_ws s (placeY s i) h5 b1 b2 b3 b4
 rw [show nextY s (placeY s i)=placeY s (i+1) from rfl] at hn
 generalize placeY s i=p at *
 generalize placeY s (i+1)=p' at *
 simp only [plC,List.map_cons,List.map_nil,plD] at hn ⊢
 refine G1 hc ?_;try with_reducible exact tt
 refine CallS.pu (hn) (R1 hc ?_);try with_reducible exact tt

theorem w_r6 (l K s i:Nat) (hi:i≤1023) (c:List V) (hc:V.lowl 6 c=true):AW Tryz.prog 4 cWb.r.r (thenQ (fun T H=>wk 6 T (Tw l (i+1))∧wkH 6 H (Hw K s (i+1) c)) noQ) (Tw l i) (Hw K s (i+1) c):=by
 simp only [o_ml,C.l,C.r,C.b,Tw,Hw]
 have hp:V.lowl 6 ((plC (placeY s (i+1))).map V.d)=true:=rfl
 generalize (plC (placeY s (i+1))).map V.d=pc at *
 have ew:IntKind.i64.wrap ((i:Int)+1)=(i:Int)+1:=w64 (by omega) (by omega)
 refine G1 (fs hc (fs hp ew)) ?_;try with_reducible exact tt

theorem w_os (l K s i:Nat) (c:List V) (ops:Array Oper) {K':List V→List (Option Ob)→Prop} (h:K' ((((Tw l i).set 15 (fnY l)).set 16 (.d (.int .i64 i))).set 17 (.d (.agg (plC (placeY s i))))) (Hw K s i c)) :
  vops Tryz.prog false K' ((cWb.r.l.b.l.l.os).take 3) [] (Tw l i) (Hw K s i c):=by
 simp only [cWb,o_ml,C.l,C.r,C.b,C.os,Tw,Hw] at h ⊢
 generalize placeY s i=p at *
 simp only [plC,List.map_cons,List.map_nil] at h ⊢
 simp
 simpa using h
theorem w_o4 (l K s i:Nat) (p:D) (b:Bool) (H:List (Option Ob)) {K':List V→List (Option Ob)→Prop} (h:K' (((((Tw l i).set 15 (fnY l)).set 16 (.d (.int .i64 i))).set 17 (.d p)).set 18 (.d (.bool b)) |>.set 19 (.d (.bool !b))) H) :
  vops Tryz.prog false K' [((cWb.r.l.b.l.l.os).drop 4).headD ⟨none,.bad,none,[]⟩] [] (((((Tw l i).set 15 (fnY l)).set 16 (.d (.int .i64 i))).set 17 (.d p)).set 18 (.d (.bool b))) H:=by
 simp only [cWb,o_ml,C.l,C.r,C.b,C.os,Tw] at h ⊢
 simp
 simpa using h
end
section
open Go.RowKit
theorem o_x3 (n:Nat) (p:Pl):V.lowl n ((plC p).map V.d)=true:=rfl
theorem o_x4 {m:Mem} {a:Act} {T:List V} {H:List (Option Ob)} (sat:Sat m a T H) {s:Nat} {x:V} (h:T.getD s .junk=x):x.rep m (a.tmps.getD s undef):=h▸sat.slots s
theorem nloop (r:Loop):∀c t f,Obj.loop r≠.cells c t f:=by intro c t f h;cases h

theorem o_x5 {m m':Mem} (hI:m'.I=m.I) (hw:m'.w=m.w) {ds:List D} {vs:List Value} (h:V.reps m (ds.map V.d) vs):V.reps m' (ds.map V.d) vs:=by
 rw [V.reps_map_d] at h ⊢
 rw [hI,hw];exact h
theorem o_x6 {m:Mem} {a:Act} {T:List V} {H:List (Option Ob)} (sat:Sat m a T H) {c:Operand} {s:Nat} (hc:X.of c = .t s) {b:Bool} (h:T.getD s .junk = .d (.bool b)):a.eval c = .bool b :=
 V.rep_bool.1 (X.rep' (T:=T) (fun s _=>sat.slots s) (by rw [hc];exact h))
def zD:List D:=[.int .i64 0,.int .i64 0,.nilsl,.nilsl]
def SS:Nat→Bool:=fun n=>n==0 || n==2

set_option maxHeartbeats 4000000 in
theorem o_x7 {asg bd:Code} (hasg:resolveC Tryz.prog asg=cAsg) (hbd:resolveC Tryz.prog bd=cBd) (ca:Code.calm asg=true) (cb:Code.calm bd=true) {fn df:Nat} {tmps:Array Value} {rec:LoopState→Option Code→Loop}
  (hrec:rec=fun st pe=>{ state:=st,pending:=pe,fn,tmps,params:=#[24,25],assign:=asg,body:=bd,defers:=df }) (s K:Nat) (s1:1≤s) (s5:s≤5) (hK:K≤1023) {m:Mem} {l:Nat} {sv:Value}
  (sat:∀a:Act,a.tmps = #[.func (.yield l) #[] #[],sv]++Array.replicate 21 undef→a.defers=[]→Sat m a ([fnY l,.p 3 0]++List.replicate 21 .junk) [some (kO K),none,some (plO (zD.map V.d)),some (sO s)])
  (t3:(V.p 0 0).rep m (tmps.getD 3 undef)) (t6:(V.p 2 0).rep m (tmps.getD 6 undef)) (hsz:tmps.size=31) (hlo:m.loose l) (hl:m.w.heap[l]?=some (.loop (rec .ready none))) :
  Calls Tryz.prog o_mk #[.func (.yield l) #[] #[],sv] m.w fun e w'=>(∃v,e = .returned v)∧∃m':Mem,m'.w=w'∧m'.base∧m'.obj 2 (plO ((plC (placeY s K)).map .d))∧(m.at (m.w.putObj l (.loop (rec .done (some (.exit 1)))))).le m' (· < 4):=by
 obtain ⟨f67,r0,r1,g,r5,r6,-,id,ops,o0,o1,o2,o3,o4,cy,hf,hb,hops,e0,e1,eg,eos,ecall,eo4,ecy,er5,er6,ecalm,eres,ent⟩:=o_wu o_wx
 simp only at hb e0 e1 eg eos ecall eo4 ecy er5 er6 ecalm eres ent
 obtain ⟨cc,ho3,hg3,hc3,ha3,hd3⟩:=o_wv ecall
 rw [Bool.and_eq_true] at ecalm
 refine calls_of_wp hf hb ((wpIn_wide (n:=0)).1 ?_)
 have sat0:=sat { tmps:=#[.func (.yield l) #[] #[],sv]++Array.replicate (f67.ntmps - #[Value.func (.yield l) #[] #[],sv].size) undef,defers:=[] } (by rw [ent];rfl) rfl
 have htop:∀n,4≤n→m.ρ n=none:=sat0.top
 refine AW.then (L:=4) e0 (w_r0 l K s s1 s5 (zD.map V.d) rfl) sat0 (Mem.le.refl _ _) htop (by simp) fun T1 H1 m1 a1 hq st1 le1 L1=>?_
 obtain ⟨m1',hw1,st1',le1',L1'⟩:=Sat.weaken (T1:=Tw0 l) (H1:=Hw K s 0 (zD.map V.d)) (Weak.of hq.1 hq.2) st1 le1 htop (by simp [Hw])
 rw [←hw1]
 refine AW.then (L:=4) e1 (w_r1 l K s (zD.map V.d) rfl) st1' le1' htop (by simp [Hw]) fun T2 H2 m2 a2 hq st2 le2 L2=>?_
 obtain ⟨m2',hw2,st2',le2',L2'⟩:=Sat.weaken (T1:=Tw l 0) (H1:=Hw K s 0 (zD.map V.d)) (Weak.of hq.1 hq.2) st2 le2 htop (by simp [Hw])
 rw [←hw2]
 clear hw1 hw2 st1 st2 sat0 sat le1 le2 L1 L2 st1' le1' L1' hq
 refine wpIn_block (wpIn_wide.2 (o_58 (fun k a w=>∃(i:Nat) (c:List D) (m':Mem),m'.w=w∧k=1024-i∧i≤K∧c.length=4∧Sat m' a (Tw l i) (Hw K s i (c.map V.d))∧m.le m' (· < 4)) ?_ 1024 a2 m2'.w ⟨0,_,m2',rfl,rfl,Nat.zero_le _,rfl,st2',le2'⟩))
 clear st2' le2' L2' hq m2 m2' a2 T2 H2 m1 m1' a1 T1 H1
 rintro k a w ⟨i,c,mw,rfl,rfl,hi,hc,st,le⟩
 have hlc:V.lowl 6 (c.map V.d)=true:=V.lowl_mono (by omega) _ (o_5m c).1
 refine (wpIn_wide (n:=0)).1 ?_
 refine AW.then (L:=4) eg (w_g l K s i (by omega) (c.map V.d) hlc) st le htop (by simp [Hw]) fun T1 H1 m1 a1 hq st1 le1 L1=>?_
 obtain ⟨m1',hw1,st1',le1',L1'⟩:=Sat.weaken (T1:=Tw l i) (H1:=Hw K s i (c.map V.d)) (Weak.of hq.1 hq.2) st1 le1 htop (by simp [Hw])
 rw [←hw1]
 clear hw1 st1 le1 L1 hq st le m1 T1 H1 a mw
 refine wpIn_seq (wpIn_block (wpIn_seq (wpIn_seq (o_6i ?_))))
 rw [hops,show [o0,o1,o2,o3,o4]=[o0,o1,o2]++[o3,o4] from rfl]
 refine o_69 (l:=none) (L:=4) (K:=fun T H=>T=((((Tw l i).set 15 (fnY l)).set 16 (.d (.int .i64 i))).set 17 (.d (.agg (plC (placeY s i)))))∧H=Hw K s i (c.map V.d)) [o3,o4] ecalm.1 (by rw [eos];exact w_os l K s i (c.map V.d) ops ⟨rfl,rfl⟩) st1' le1' htop (by simp [Hw]) fun T2 H2 a2 m2 hq st2 le2 L2=>?_
 obtain ⟨rfl,rfl⟩:=hq
 clear st1' le1' L1' m1' a1
 -- the call of yield
 have g15:a2.eval (.tmp 15) = .func (.yield l) #[] #[]:=by
  have:=o_x4 st2 (s:=15) (x:=fnY l) (by simp [Tw])
  unfold V.rep at this
  obtain ⟨vs,h1,h2⟩:=this
  simp at h2
  subst h2
  exact h1
 have g16:a2.eval (.tmp 16) = .int .i64 i:=V.rep_int.1 (o_x4 st2 (s:=16) (by simp [Tw]))
 have g17:(V.d (.agg (plC (placeY s i)))).rep m2 (a2.eval (.tmp 17)):=o_x4 st2 (s:=17) (by simp [Tw])
 obtain ⟨lo2,hl2⟩:=hlo.keep le2
 have hl2':=hl2.trans hl
 have hcut:∀n,n=0∨n=2→(m2.cut SS).ρ n=m2.ρ n:=fun n h=>by rcases h with rfl | rfl<;>simp [SS]
 have hobj:∀(n:Nat) (ty:TypeId) (ds:List D),n=0∨n=2→m2.obj n ⟨ty,ds.map V.d⟩→(m2.cut SS).obj n ⟨ty,ds.map V.d⟩:=by
  rintro n ty ds hn ⟨b,vs,more,h1,h2,h3,h4,h5⟩
  exact ⟨b,vs,more,by rw [hcut n hn];exact h1,h2,h3,o_x5 (m:=m2) (m':=m2.cut SS) rfl rfl (show V.reps m2 (ds.map V.d) vs from h4),h5⟩
 have hun:∀(n:Nat) (ty:TypeId) (ds:List D) (mr:Mem),n=0∨n=2→(∀b,m2.ρ n=some b→mr.ρ n=some b)→mr.obj n ⟨ty,ds.map V.d⟩→(⟨m2.ρ,mr.I,mr.w⟩:Mem).obj n ⟨ty,ds.map V.d⟩:=by
  rintro n ty ds mr hn hρ ⟨b,vs,more,h1,h2,h3,h4,h5⟩
  obtain ⟨b',hb'⟩:∃b',m2.ρ n=some b':=by
   rcases hn with rfl | rfl
   ·exact o_x0 (st2.obj 0 _ rfl)
   ·exact o_x0 (st2.obj 2 _ rfl)
  have:=hρ b' hb'
  rw [h1] at this
  cases this
  exact ⟨b,vs,more,hb',h2,h3,o_x5 (m:=mr) (m':=⟨m2.ρ,mr.I,mr.w⟩) rfl rfl (show V.reps mr (ds.map V.d) vs from h4),h5⟩
 have r3:(V.p 0 0).rep (m2.cut SS) (tmps.getD 3 undef):=by
  unfold V.rep at t3 ⊢
  obtain ⟨b,h1,h2⟩:=t3
  exact ⟨b,by rw [hcut 0 (.inl rfl)];exact le2.ρ 0 b h1,h2⟩
 have r6':(V.p 2 0).rep (m2.cut SS) (tmps.getD 6 undef):=by
  unfold V.rep at t6 ⊢
  obtain ⟨b,h1,h2⟩:=t6
  exact ⟨b,by rw [hcut 2 (.inr rfl)];exact le2.ρ 2 b h1,h2⟩
 have rv:(V.d (.agg (plC (placeY s i)))).rep (m2.cut SS) (a2.eval (.tmp 17)):=V.rep_d.2 (V.rep_d.1 g17)
 have loc:(m2.cut SS).loose l:=by
  refine ⟨lo2.lt,fun n h=>?_,lo2.I⟩
  simp only at h
  split at h
  ·exact lo2.ρ n h
  ·cases h
 have hround:=o_x1 hasg hbd ca cb hrec (0-1) K i (plC (placeY s i)) rfl (m:=m2.cut SS) (l:=l) (c:=c.map V.d) (Mem.cut_base st2.base SS) (hobj 0 _ [.int .i64 K] (.inl rfl) (st2.obj 0 _ rfl)) (hobj 2 _ c (.inr rfl) (st2.obj 2 _ rfl)) (by simpa using hc)
  (fun b h0 h2=>by
   rw [hcut 0 (.inl rfl)] at h0;rw [hcut 2 (.inr rfl)] at h2
   have:=st2.inj 0 2 b rfl rfl h0 h2
   omega)
  (fun n h0 h2=>by simp [SS,h0,h2]) r3 r6' hsz loc hl2' rv
 obtain ⟨fn',tmps',asg',bd',hy,hR⟩:=hround
 rw [←g16] at hy
 refine wpListIn_plain hg3 (fun Kk hKk=>⟨fun _ _=>trivial,?_⟩)
 rw [show (FR none).round=none from rfl,Oper.semAt_none,o_6e ho3 hc3 ha3 g15,hy,Oper.uponIn_round]
 refine ⟨fun h=>by simp [FR,Fence.wide] at h,hR.mono ?_⟩
 rintro e w' ⟨mr,rfl,mrb,mr0,mr2,hcase⟩
 -- both ways: a memory that fits
 have key:∀(o:Obj),(∀c t f,o≠.cells c t f)→((m2.cut SS).at (m2.w.putObj l o)).le mr (· < 3)→∀b:Bool,
   Sat ⟨m2.ρ,mr.I,mr.w⟩ (a2.put (some 18) (.bool b)) (((((Tw l i).set 15 (fnY l)).set 16 (.d (.int .i64 i))).set 17 (.d (.agg (plC (placeY s i))))).set 18 (.d (.bool b))) (Hw K s i ((plC (placeY s i)).map V.d))∧(m2.at (m2.w.putObj l o)).le ⟨m2.ρ,mr.I,mr.w⟩ (fun n=>SS n=true):=by
  intro o ho hle b
  have hu:=Mem.uncut (m:=m2.at (m2.w.putObj l o)) (S:=SS) hle (fun n h=>by simp [SS] at h;omega)
  have hρ:∀n b,m2.ρ n=some b→n=0∨n=2→mr.ρ n=some b:=fun n b h hn=>hle.ρ n b (by show (if SS n=true then m2.ρ n else none)=some b;rw [if_pos (by rcases hn with rfl | rfl<;>rfl)];exact h)
  refine ⟨Sat.put (Sat.uncut (H':=Hw K s i ((plC (placeY s i)).map V.d)) (lo2.sat o st2) mrb hu (fun n h=>?_) rfl fun n ob h=>?_) 18 (V.rep_bool.2 rfl),hu⟩
  ·simp [SS] at h
   rcases h with rfl | rfl<;>rfl
  ·rcases n with _ | _ | _ | _ | _ | _ | n
   ·left;simp [Hw] at h;subst h
    exact ⟨rfl,hun 0 _ [.int .i64 K] mr (.inl rfl) (fun b h=>hρ 0 b h (.inl rfl)) mr0⟩
   ·simp [Hw] at h
   ·left;simp [Hw] at h;subst h
    exact ⟨rfl,hun 2 _ (plC (placeY s i)) mr (.inr rfl) (fun b h=>hρ 2 b h (.inr rfl)) mr2⟩
   ·right;simp [Hw] at h;subst h;exact ⟨rfl,rfl⟩
   ·simp [Hw] at h
   ·right;simp [Hw] at h;subst h;exact ⟨rfl,by simp [Hw]⟩
   ·simp [Hw] at h
 have hres:∀(a:Act) (w:World),(results f67 a.tmps).run Tryz.prog w = .ok (.tuple #[]) w:=fun a w=>by
  have:f67.results = #[]:=Array.eq_empty_of_size_eq_zero eres
  simp [results,this]
 have hmap:[o4].map (resolveO Tryz.prog ops)=[((cWb.r.l.b.l.l.os).drop 4).headD ⟨none,.bad,none,[]⟩]:=by rw [←eo4];rfl
 by_cases hik:i=K
 ·rw [if_pos hik] at hcase
  obtain ⟨rfl,hle⟩:=hcase
  obtain ⟨sat5,le5⟩:=key _ (nloop _) hle false
  refine hKk _ _ ?_
  rw [hd3]
  have lem:=(hlo.le le2 (o:=.loop (rec .done (some (.exit 1)))) (o':=.loop (rec .done (some (.exit 1)))) hl (nloop _) (nloop _) (nloop _) rfl).trans le5 (fun n b _ h=>by simp [SS] at h;omega)
  refine o_69 (l:=none) (L:=4) (m0:=m.at (m.w.putObj l (.loop (rec .done (some (.exit 1)))))) (m:=⟨m2.ρ,mr.I,mr.w⟩) (K:=fun T H=>T=(((((Tw l i).set 15 (fnY l)).set 16 (.d (.int .i64 i))).set 17 (.d (.agg (plC (placeY s i))))).set 18 (.d (.bool false))).set 19 (.d (.bool true))∧H=Hw K s i ((plC (placeY s i)).map V.d)) [] ecalm.2 (by rw [hmap];exact w_o4 l K s i _ false _ ⟨rfl,rfl⟩) sat5 lem htop (by simp [Hw]) fun T6 H6 a6 m6 hq st6 le6 _=>?_
  obtain ⟨rfl,rfl⟩:=hq
  refine wpListIn_nil ?_
  refine wpIn_cond_split (o_x6 st6 ecy (b:=true) (by simp [Tw])) (fun _=>wpIn_ret ?_) (fun h=>by cases h)
  refine ⟨st6.defers,_,hres _ _,⟨_,rfl⟩,m6,rfl,st6.base,?_,le6⟩
  rw [←hik]
  exact st6.obj 2 _ rfl
 ·rw [if_neg hik] at hcase
  obtain ⟨rfl,hle⟩:=hcase
  obtain ⟨sat5,le5⟩:=key (.loop (rec .ready none)) (nloop _) (by rw [o_6g hl2'];exact hle) true
  rw [o_6g hl2'] at le5
  refine hKk _ _ ?_
  rw [hd3]
  refine o_69 (l:=none) (L:=4) (m0:=m) (m:=⟨m2.ρ,mr.I,mr.w⟩) (K:=fun T H=>T=(((((Tw l i).set 15 (fnY l)).set 16 (.d (.int .i64 i))).set 17 (.d (.agg (plC (placeY s i))))).set 18 (.d (.bool true))).set 19 (.d (.bool false))∧H=Hw K s i ((plC (placeY s i)).map V.d)) [] ecalm.2 (by rw [hmap];exact w_o4 l K s i _ true _ ⟨rfl,rfl⟩) sat5 (le2.trans le5 (fun n b _ h=>by simp [SS] at h;omega)) htop (by simp [Hw]) fun T6 H6 a6 m6 hq st6 le6 _=>?_
  obtain ⟨rfl,rfl⟩:=hq
  refine wpListIn_nil ?_
  refine wpIn_cond_split (o_x6 st6 ecy (b:=false) (by simp [Tw])) (fun h=>by cases h) (fun _=>wpIn_skip ?_)
  have hlp:=o_x3 6 (placeY s i)
  obtain ⟨m7,hw7,st7,le7,_⟩:=Sat.weaken (T1:=Tw l i) (H1:=Hw K s i ((plC (placeY s i)).map V.d)) (Weak.of (by simp [Tw,Hw,V.low,V.lowl]) (by simp [Hw,hlp,V.lowl,V.low])) st6 le6 htop (by simp [Hw])
  rw [←hw7]
  refine wpIn_mono (wpIn_wide.2 (w_r5 l K s i s1 s5 (by omega) _ hlp r5 er5 m m7 a6 st7 le7 htop (by simp [Hw]))) ?_
  rintro e a8 w8 ⟨T8,H8,m8,rfl,hq,st8,le8,_⟩
  cases e with
  | normal =>
   obtain ⟨m9,hw9,st9,le9,_⟩:=Sat.weaken (T1:=Tw l i) (H1:=Hw K s (i+1) ((plC (placeY s i)).map V.d)) (Weak.of hq.1 hq.2) st8 le8 htop (by simp [Hw])
   rw [←hw9]
   refine wpIn_mono (wpIn_wide.2 (w_r6 l K s i (by omega) _ hlp r6 er6 m m9 a8 st9 le9 htop (by simp [Hw]))) ?_
   rintro e a10 w10 ⟨T10,H10,m10,rfl,hq,st10,le10,_⟩
   cases e with
   | normal =>
    obtain ⟨m11,hw11,st11,le11,_⟩:=Sat.weaken (T1:=Tw l (i+1)) (H1:=Hw K s (i+1) ((plC (placeY s i)).map V.d)) (Weak.of hq.1 hq.2) st10 le10 htop (by simp [Hw])
    exact ⟨1024-(i+1),by omega,i+1,plC (placeY s i),m11,hw11,rfl,by omega,rfl,st11,le11⟩
   | _=>exact hq.elim
  | _=>exact hq.elim
end
section
open Go.RowKit
def atE (s k:Int):Int:=if 1≤s∧s≤5 then (if 0≤k∧k≤1023 then 0 else 2) else 10
def atP (s k:Int):Pl:=if atE s k=0 then placeY s.toNat k.toNat else ⟨0,0,0,0⟩

def Ta (s k:Nat) (x23:V):List V:=[.d (.int .i64 s),.d (.int .i64 k),.junk,.p 0 0,.p 1 0,.d (.int .i64 0),.p 2 0]++List.replicate 16 .junk++[x23]++List.replicate 7 .junk
def Ta0 (s k:Nat):List V:=[.d (.int .i64 s),.d (.int .i64 k),.junk,.p 0 0,.p 1 0,.d (.int .i64 0)]++List.replicate 25 .junk
abbrev zO:Ob:=plO (zD.map V.d)

theorem a_1 (s k:Nat):AW Tryz.prog 0 o_mi.l (thenQ (fun T H=>wk 2 T (Ta0 s k)∧wkH 2 H [some (kO k),some zO]) noQ) ([.d (.int .i64 s),.d (.int .i64 k)]++List.replicate 29 .junk) []:=by
 simp only [o_mi,C.l,Ta0]
 refine G0 ?_;try with_reducible exact tt
 exact ⟨Subs.refl _,rfl⟩
theorem a_2 (s k:Nat) (s1:1≤s) (s5:s≤5) (hk:k≤1023):AW Tryz.prog 0 o_mi.r.l (thenQ (fun T H=>wk 2 T (Ta0 s k)∧wkH 2 H [some (kO k),some zO]) noQ) (Ta0 s k) [some (kO k),some zO]:=by
 simp only [o_mi,C.l,C.r,Ta0,zD]
 refine G0 ?_;try with_reducible exact tt
 refine CallS.pu (o_wk s) (R0 ?_);try with_reducible exact tt
 have h1:(1:Int)≤s∧(s:Int)≤5:=by omega
 refine AW.cond rfl (fun h=>?_) (fun h=>?_)
 ·simp [h1] at h
 have h2:¬(1023:Int)<k:=by omega
 refine G1 h2 ?_;try with_reducible exact tt
 refine AW.cond rfl (fun h=>?_) (fun h=>?_)
 ·simp at h
 refine G0 ?_;try with_reducible exact tt
 rfl
theorem a_3 (s k:Nat):AW Tryz.prog 0 o_mi.r.r.l (thenQ (fun T H=>wk 3 T (Ta s k .junk)∧wkH 3 H [some (kO k),some zO,some zO]) noQ) (Ta0 s k) [some (kO k),some zO]:=by
 simp only [o_mi,C.l,C.r,Ta0,Ta]
 refine G0 ?_;try with_reducible exact tt
 exact ⟨Subs.refl _,rfl⟩
theorem a_4 (s k:Nat):AW Tryz.prog 0 o_mi.r.r.r.l.l (thenQ (fun T H=>wk 4 T (Ta s k (.fn (.func o_mk) [.p 3 0]))∧wkH 4 H [some (kO k),some zO,some zO,some (sO s)]) noQ) (Ta s k .junk) [some (kO k),some zO,some zO]:=by
 simp only [o_mi,C.l,C.r,Ta]
 refine G0 ?_;try with_reducible exact tt
 refine CallS.newX (o_wt s) ⟨rfl,fun _=>rfl⟩ rfl (fun _=>rfl) (Subs.refl _) ?_
 simp [nameOf,V.ren,V.rens]
 rfl
theorem a_5 (s k:Nat) (x:V) (p:Pl) {K':List V→List (Option Ob)→Prop} (h:∀T,T.getD 4 .junk = .p 1 0→T.getD 5 .junk = .d (.int .i64 0)→K' T [none,some (plO ((plC p).map V.d)),some (plO ((plC p).map V.d)),none]) :
  vops Tryz.prog false K' o_mi.r.r.r.r.l.os [] (Ta s k x) [none,some zO,some (plO ((plC p).map V.d)),none]:=by
 simp only [o_mi,C.l,C.r,C.os,Ta,zD]
 simp only [plC,List.map_cons,List.map_nil] at h ⊢
 simp
 exact need.of (by decide) (h _ rfl rfl)

theorem o_x8 (l:List V) (n i:Nat) (h:l.length≤i):(l++List.replicate n V.junk).getD i .junk = .junk:=by
 rw [List.getD_eq_getElem?_getD,List.getElem?_append_right h,List.getElem?_replicate];split<;>rfl
theorem o_x9 {m:Mem} {H:List (Option Ob)} {a:Act} {l:Nat} {sv:Value} (hb:m.base) (hobj:∀n ob,H.getD n none=some ob→m.obj n ob) (hinj:∀n k b,live H n→live H k→m.ρ n=some b→m.ρ k=some b→n=k) (htop:∀n,H.length≤n→m.ρ n=none)
  (hv:(V.p 3 0).rep m sv) (ht:a.tmps = #[.func (.yield l) #[] #[],sv]++Array.replicate 21 undef) (hd:a.defers=[]):Sat m a ([fnY l,.p 3 0]++List.replicate 21 .junk) H:=by
 refine ⟨hb,fun s=>?_,hobj,hinj,htop,by rw [ht];simp,hd⟩
 rcases s with _ | _ | s
 ·rw [ht]
  show V.rep m (fnY l) _
  unfold V.rep
  exact ⟨[],by simp,by simp⟩
 ·rw [ht]
  show V.rep m (.p 3 0) _
  simpa using hv
 ·have:([fnY l,.p 3 0]++List.replicate 21 V.junk).getD (s+2) .junk = .junk:=o_x8 _ _ _ (by simp)
  rw [this]
  unfold V.rep
  trivial
def SC:Nat→Bool:=fun n=>n==0 || n==2 || n==3

set_option maxHeartbeats 4000000 in
theorem o_xa (s k:Nat) (s1:1≤s) (s5:s≤5) (hk:k≤1023):Eqn Tryz.prog o_mh [.d (.int .i64 s),.d (.int .i64 k)] [] (.tup [.d (plD (placeY s k)),.d (.int .i64 0)]) []:=by
 refine ⟨Nat.le_refl _,by simp,rfl,by simp,fun m vs mb hargs _ _ htop=>.inr ⟨o_6j o_mj _ _,?_⟩⟩
 obtain ⟨v0,_,rfl,hv0,hargs⟩:=V.reps_cons'.1 hargs
 obtain ⟨v1,_,rfl,hv1,hargs⟩:=V.reps_cons'.1 hargs
 simp at hargs;subst hargs
 have htop:∀n,0≤n→m.ρ n=none:=fun n _=>htop n (Nat.zero_le _)
 obtain ⟨f10,a1,a2,a3,a4,asg,bd,g,ps,id,ops,hf,hb,e1,e2,e3,e4,eg,eps,easg,ebd,e5,ecalm,ers,ent⟩:=o_ww at_s
 simp only at hb e1 e2 e3 e4 eg eps easg ebd e5 ecalm ers ent
 rw [Bool.and_eq_true,Bool.and_eq_true] at ecalm
 obtain ⟨calA,calB,calO⟩:=ecalm
 have eps:ps = #[24,25]:=by rw [←Array.toArray_toList (xs:=ps),eps]
 subst eps
 refine (callsIn_wide (n:=1)).1 (callsIn_of_wp_marks hf hb trivial ?_ rfl)
 have hsize:f10.ntmps-2=29:=by rw [ent]
 have sat0:Sat m { tmps:=#[v0,v1]++Array.replicate (f10.ntmps - #[v0,v1].size) undef,defers:=[] } ([.d (.int .i64 s),.d (.int .i64 k)]++List.replicate 29 .junk) []:=by
  refine ⟨mb,fun i=>?_,by simp,fun n k b ln=>by simp [live] at ln,fun n _=>htop n (Nat.zero_le _),by simp [ent],rfl⟩
  rcases i with _ | _ | i
  ·show V.rep m (.d (.int .i64 s)) _
   rw [Array.getD_eq_getD_getElem?,Array.getElem?_append_left (by simp)]
   exact hv0
  ·show V.rep m (.d (.int .i64 k)) _
   rw [Array.getD_eq_getD_getElem?,Array.getElem?_append_left (by simp)]
   exact hv1
  ·have:([V.d (.int .i64 s),V.d (.int .i64 k)]++List.replicate 29 V.junk).getD (i+2) .junk = .junk:=o_x8 _ _ _ (by simp)
   rw [this]
   unfold V.rep
   trivial
 refine AW.then (L:=0) e1 (a_1 s k) sat0 (Mem.le.refl _ _) htop (by simp) fun T1 H1 m1 w1 hq st1 le1 _=>?_
 obtain ⟨m1',hw1,st1',le1',_⟩:=Sat.weaken (T1:=Ta0 s k) (H1:=[some (kO k),some zO]) (Weak.of hq.1 hq.2) st1 le1 htop (by simp)
 rw [←hw1]
 refine AW.then (L:=0) e2 (a_2 s k s1 s5 hk) st1' le1' htop (by simp) fun T2 H2 m2 w2 hq st2 le2 _=>?_
 obtain ⟨m2',hw2,st2',le2',_⟩:=Sat.weaken (T1:=Ta0 s k) (H1:=[some (kO k),some zO]) (Weak.of hq.1 hq.2) st2 le2 htop (by simp)
 rw [←hw2]
 refine AW.then (L:=0) e3 (a_3 s k) st2' le2' htop (by simp) fun T3 H3 m3 w3 hq st3 le3 _=>?_
 obtain ⟨m3',hw3,st3',le3',_⟩:=Sat.weaken (T1:=Ta s k .junk) (H1:=[some (kO k),some zO,some zO]) (Weak.of hq.1 hq.2) st3 le3 htop (by simp)
 rw [←hw3]
 refine wpIn_seq ?_
 refine AW.then (L:=0) e4 (a_4 s k) st3' le3' htop (by simp) fun T4 H4 m4' w4 hq st4 le4 _=>?_
 obtain ⟨m4,hw4,st4',le4',_⟩:=Sat.weaken (T1:=Ta s k (.fn (.func o_mk) [.p 3 0])) (H1:=[some (kO k),some zO,some zO,some (sO s)]) (Weak.of hq.1 hq.2) st4 le4 htop (by simp)
 rw [←hw4]
 clear hw1 hw2 hw3 hw4 st1 st2 st3 st4 st1' st2' st3' le1 le2 le3 le4 le1' le2' le3' hq sat0
 refine wpIn_block (wpIn_rangeFunc fun fn' _=>?_)
 -- the function that is ranged over
 have gt3:(V.p 0 0).rep m4 (w4.tmps.getD 3 undef):=o_x4 st4' (s:=3) rfl
 have gt6:(V.p 2 0).rep m4 (w4.tmps.getD 6 undef):=o_x4 st4' (s:=6) rfl
 have gt23:(V.fn (.func o_mk) [.p 3 0]).rep m4 (w4.tmps.getD 23 undef):=o_x4 st4' (s:=23) rfl
 unfold V.rep at gt23
 obtain ⟨cvs,hg23,hcv⟩:=gt23
 obtain ⟨sv,_,rfl,hsv,hcv⟩:=V.reps_cons'.1 hcv
 simp at hcv;subst hcv
 have hgt:g = .tmp 23:=by
  cases g<;>simp [X.of] at eg
  ·rw [eg]
  ·rename_i v;cases h:D.of1 v<;>simp [h] at eg
 have hgev:w4.eval g = .func (.func o_mk) #[] #[sv]:=by rw [hgt];exact hg23
 obtain ⟨rec,hrec⟩:∃rec:LoopState→Option Code→Loop,rec=fun st pe=>{ state:=st,pending:=pe,fn:=fn',tmps:=w4.tmps,params:=#[24,25],assign:=asg,body:=bd,defers:=m4.w.heap.size }:=⟨_,rfl⟩
 obtain ⟨W1,hW1⟩:∃W1,W1=(m4.w.alloc (.deferred (some []))).alloc (.loop (rec .ready none)):=⟨_,rfl⟩
 have hl1:W1.heap[m4.w.heap.size+1]?=some (.loop (rec .ready none)):=by
  rw [hW1];have:=World.alloc_heap_new (m4.w.alloc (.deferred (some []))) (.loop (rec .ready none));rwa [World.size_alloc] at this
 have hd1:W1.heap[m4.w.heap.size]?=some (.deferred (some [])):=by
  rw [hW1];exact (Below.heap_alloc _ _ _ (by simp)).trans (World.alloc_heap_new m4.w _)
 have satw:Sat (m4.at W1) w4 (Ta s k (.fn (.func o_mk) [.p 3 0])) [some (kO k),some zO,some zO,some (sO s)]:=by
  rw [hW1];exact (st4'.grow _).grow _
 have lew:m.le (m4.at W1) (· < 0):=by
  rw [hW1];exact (le4'.grow st4'.base _).grow (st4'.grow _).base _
 have loD:(m4.at W1).loose m4.w.heap.size:=by
  rw [hW1];exact (o_6h st4'.base _).grow _
 have loL:(m4.at W1).loose (m4.w.heap.size+1):=by
  rw [hW1]
  have:=o_6h (st4'.grow (.deferred (some []))).base (.loop (rec .ready none))
  simpa using this
 have hb4:m.w.heap.size≤m4.w.heap.size:=le4'.size
 have hrep1:∀x v,V.rep m4 x v→V.rep (m4.at W1) x v:=fun x v h=>by
  rw [hW1]
  exact V.rep_off (m:=m4) (m':=m4.at ((m4.w.alloc (.deferred (some []))).alloc (.loop (rec .ready none)))) ⟨rfl,rfl,fun b hb=>(Below.heap_alloc _ _ _ (by simp;have:=st4'.base.imm b hb;omega)).trans (Below.heap_alloc _ _ _ (st4'.base.imm b hb)),fun n b hb=>(Below.heap_alloc _ _ _ (by simp;have:=st4'.base.dom n b hb;omega)).trans (Below.heap_alloc _ _ _ (st4'.base.dom n b hb))⟩ x v h
 generalize hLn:m4.w.heap.size+1=l at *
 generalize hDn:m4.w.heap.size=dd at *
 refine ⟨l,[{ target:=.collected dd,args:=#[] }],W1,{ target:=.fn (.func o_mk) #[sv],args:=#[.func (.yield l) #[] #[]] },W1,o_mk,#[.func (.yield l) #[] #[],sv],W1,?_,?_,fun _ _=>trivial,?_,fun h=>by simp [Fence.wide] at h,?_⟩
 ·have:=run_enterLoop_outer (P:=Tryz.prog) (w:=m4.w) fn' w4.tmps #[24,25] asg bd
  rw [hW1,hrec,←hLn,←hDn]
  exact this
 ·simp only [Go.resolve,hgev]
  simp [go_sem,Deferred.ofValue]
 ·simp [invoke,go_sem]
 refine callsIn_wide.2 ?_
 -- the memory that the walk sees
 have cutr:∀n,SC n=true→((m4.at W1).cut SC).ρ n=m4.ρ n:=fun n h=>by simp [h]
 have cobj:∀(n:Nat) (ty:TypeId) (ds:List D),SC n=true→(m4.at W1).obj n ⟨ty,ds.map V.d⟩→((m4.at W1).cut SC).obj n ⟨ty,ds.map V.d⟩:=by
  rintro n ty ds hn ⟨b,vs,more,h1,h2,h3,h4,h5⟩
  exact ⟨b,vs,more,by rw [cutr n hn];exact h1,h2,h3,o_x5 (m:=m4.at W1) (m':=(m4.at W1).cut SC) rfl rfl (show V.reps (m4.at W1) (ds.map V.d) vs from h4),h5⟩
 have prep:∀n o v,SC n=true→(V.p n o).rep (m4.at W1) v→(V.p n o).rep ((m4.at W1).cut SC) v:=by
  intro n o v hn h
  unfold V.rep at h ⊢
  obtain ⟨b,h1,h2⟩:=h
  exact ⟨b,by rw [cutr n hn];exact h1,h2⟩
 have loC:((m4.at W1).cut SC).loose l:=by
  refine ⟨loL.lt,fun n h=>?_,loL.I⟩
  simp only at h
  split at h
  ·exact loL.ρ n h
  ·cases h
 have lv:∀n,live [some (kO k),none,some zO,some (sO s)] n→SC n=true:=fun n h=>by
  rcases n with _ | _ | _ | _ | n<;>first | rfl | (simp [live] at h)
 have hwalk:=o_x7 (m:=(m4.at W1).cut SC) (l:=l) (sv:=sv) easg ebd calA calB hrec s k s1 s5 hk
  (fun a ha hd=>o_x9 (H:=[some (kO k),none,some zO,some (sO s)]) (Mem.cut_base satw.base SC) (fun n ob h=>by
   rcases n with _ | _ | _ | _ | n
   ·simp at h;subst h;exact cobj 0 _ [.int .i64 k] rfl (satw.obj 0 _ rfl)
   ·simp at h
   ·simp at h;subst h;exact cobj 2 _ zD rfl (satw.obj 2 _ rfl)
   ·simp at h;subst h;exact cobj 3 _ [.int .i64 s] rfl (satw.obj 3 _ rfl)
   ·simp at h) (fun n k' b h1 h2 h3 h4=>by
    have l1:=lv n h1
    have l2:=lv k' h2
    rw [cutr n l1] at h3;rw [cutr k' l2] at h4
    refine satw.inj n k' b ?_ ?_ h3 h4
    ·rcases n with _ | _ | _ | _ | n<;>first | rfl | (simp [live] at h1)
    ·rcases k' with _ | _ | _ | _ | k'<;>first | rfl | (simp [live] at h2)) (fun n h=>by
    have h4:¬SC n=true:=by simp [SC];simp at h;omega
    simp [h4]) (prep 3 0 sv rfl (hrep1 _ _ hsv)) ha hd)
  (prep 0 0 _ rfl (hrep1 _ _ gt3)) (prep 2 0 _ rfl (hrep1 _ _ gt6)) (by rw [satw.size];rfl) loC hl1
 refine hwalk.mono ?_
 rintro e w5 ⟨⟨v,rfl⟩,m5,rfl,b5,o5,le5⟩
 obtain ⟨loC5,hl5⟩:=(loC.put (.loop (rec .done (some (.exit 1))))).keep le5
 have hl5':=hl5.trans (World.putObj_heap_same loC.lt)
 have hrd:∀st pe,(rec st pe).state=st∧(rec st pe).pending=pe:=fun st pe=>by rw [hrec];exact ⟨rfl,rfl⟩
 have hend:=run_endLoop (P:=Tryz.prog) hl5' (by rw [(hrd _ _).1];simp)
 rw [(hrd _ _).2] at hend
 obtain ⟨o6,hend⟩:∃o6,(Instr.endLoop l).run Tryz.prog m5.w = .ok (some (.exit 1)) (m5.w.putObj l o6):=⟨_,hend⟩
 refine ⟨_,_,hend,wpIn_exit ?_⟩
 -- back in the asker
 have hu:=Mem.uncut (m:=(m4.at W1).at (W1.putObj l (.loop (rec .done (some (.exit 1)))))) (S:=SC) le5 (fun n h=>by simp [SC] at h;omega)
 have lo5:(⟨m4.ρ,m5.I,m5.w⟩:Mem).loose l:=((loL.put (.loop (rec .done (some (.exit 1))))).keep hu).1
 have loD5:=(Mem.loose.keep (m:=(m4.at W1).at (W1.putObj l (.loop (rec .done (some (.exit 1)))))) (l:=dd) ⟨by simpa using loD.lt,loD.ρ,loD.I⟩ hu)
 have hne:dd≠l:=by omega
 have hd5:m5.w.heap[dd]?=some (.deferred (some [])):=loD5.2.trans ((World.putObj_heap_other hne).trans hd1)
 have obj2:(⟨m4.ρ,m5.I,m5.w⟩:Mem).obj 2 (plO ((plC (placeY s k)).map V.d)):=by
  obtain ⟨b,vs,more,h1,h2,h3,h4,h5⟩:=o5
  obtain ⟨b',hb'⟩:=o_x0 (satw.obj 2 _ rfl)
  have:=le5.ρ 2 b' (by show (if SC 2=true then m4.ρ 2 else none)=some b';rw [if_pos (show SC 2=true from rfl)];exact hb')
  rw [h1] at this
  cases this
  exact ⟨b,vs,more,hb',h2,h3,o_x5 (m:=m5) (m':=⟨m4.ρ,m5.I,m5.w⟩) rfl rfl (show V.reps m5 ((plC (placeY s k)).map V.d) vs from h4),h5⟩
 have sat5:Sat ⟨m4.ρ,m5.I,m5.w⟩ w4 (Ta s k (.fn (.func o_mk) [.p 3 0])) [none,some zO,some (plO ((plC (placeY s k)).map V.d)),none]:=by
  refine Sat.uncut (m:=(m4.at W1).at (W1.putObj l (.loop (rec .done (some (.exit 1)))))) (loL.sat (.loop (rec .done (some (.exit 1)))) satw) b5 hu (fun n h=>?_) rfl fun n ob h=>?_
  ·simp [SC] at h
   rcases h with (rfl | rfl) | rfl<;>rfl
  ·rcases n with _ | _ | _ | _ | n
   ·simp at h
   ·right;simp at h;subst h;exact ⟨rfl,rfl⟩
   ·left;simp at h;subst h;exact ⟨rfl,obj2⟩
   ·simp at h
   ·simp at h
 have le5':m.le ⟨m4.ρ,m5.I,m5.w⟩ (· < 0):=by
  refine Mem.le.trans (lew.far mb (l:=l) (by omega) (.loop (rec .done (some (.exit 1))))) hu fun n b h _=>?_
  rw [htop n (Nat.zero_le _)] at h;cases h
 have sat6:=lo5.sat o6 sat5
 have le6:=le5'.far mb (l:=l) (by omega) o6
 have hd6:(m5.w.putObj l o6).heap[dd]?=some (.deferred (some [])):=(World.putObj_heap_other hne).trans hd5
 have loD6:((⟨m4.ρ,m5.I,m5.w⟩:Mem).at (m5.w.putObj l o6)).loose dd:=⟨by simpa using loD5.1.lt,loD5.1.ρ,loD5.1.I⟩
 show (Code.seq (.region id ops false) .ret).wpIn Fence.wide 1 _ _ _ _
 refine wpIn_seq (o_6i ?_)
 have hops:ops.toList=ops.toList++[]:=(List.append_nil _).symm
 rw [hops]
 refine o_6d (D:=[{ target:=.collected dd,args:=#[] }]) (Q:=fun e a w=>e = .normal∧∃T' H' m',m'.w=w∧Sat m' a T' H'∧T'.getD 4 .junk = .p 1 0∧T'.getD 5 .junk = .d (.int .i64 0)∧H'=[none,some (plO ((plC (placeY s k)).map V.d)),some (plO ((plC (placeY s k)).map V.d)),none]∧m.le m' (· < 0)∧((⟨m4.ρ,m5.I,m5.w⟩:Mem).at (m5.w.putObj l o6)).le m' (· < 4)) ?_ _ w4 _ _ ⟨rfl,by rw [st4'.defers];rfl⟩ ?_
 ·rintro e a a' w hbes ⟨rfl,T7,H7,m7,rfl,st7,h4,h5,rfl,le0,le7⟩
  refine wpIn_ret ?_
  have hdf:a'.defers=[{ target:=.collected dd,args:=#[] }]:=by rw [hbes.defers,st7.defers];rfl
  show LeavesInM _ _ _ _ _ _ a'.defers _ _
  rw [hdf,←hbes.tmps]
  obtain ⟨lo7,hl7⟩:=loD6.keep le7
  have hd7:=hl7.trans hd6
  refine ⟨by simp,.inl ⟨dd,_,rfl,run_takeDeferred hd7,?_⟩⟩
  have sat8:=lo7.sat (.deferred none) st7
  obtain ⟨v,hv1,hv2⟩:=o_5d (P:=Tryz.prog) sat8 f10 (.tup [.d (plD (placeY s k)),.d (.int .i64 0)]) (by
   rw [ers]
   simp only [outV,outs,RV.out,h4,h5]
   rfl)
  refine ⟨v,hv1,v,⟨fun _=>none,m7.I,m7.w.putObj dd (.deferred none)⟩,rfl,rfl,?_⟩
  have lem:=le0.far mb (l:=dd) (by omega) (.deferred none)
  refine ⟨⟨sat8.base.imm,fun n b h=>(by cases h),sat8.base.tabs.mono (fun _ h=>h) (fun _ _=>rfl)⟩,⟨fun n b h=>(by rw [htop n (Nat.zero_le _)] at h;cases h),lem.I,lem.os,lem.tape,lem.output,lem.drawn,lem.size,lem.block,lem.shape,lem.imm,lem.newI,fun n b h=>(by cases h)⟩,?_,by simp,by simp,fun _ _=>rfl,fun n b _ h=>(by cases h)⟩
  unfold V.rep at hv2 ⊢
  obtain ⟨us,h1,h2⟩:=hv2
  exact ⟨us,h1,o_x5 (ds:=[plD (placeY s k),.int .i64 0]) (m:=m7.at (m7.w.putObj dd (.deferred none))) rfl rfl h2⟩
 ·refine o_69 (l:=none) (L:=4) (m0:=(⟨m4.ρ,m5.I,m5.w⟩:Mem).at (m5.w.putObj l o6)) (m:=(⟨m4.ρ,m5.I,m5.w⟩:Mem).at (m5.w.putObj l o6)) (K:=fun T H=>T.getD 4 .junk = .p 1 0∧T.getD 5 .junk = .d (.int .i64 0)∧H=[none,some (plO ((plC (placeY s k)).map V.d)),some (plO ((plC (placeY s k)).map V.d)),none]) [] calO (by rw [e5];exact a_5 s k _ _ fun T h1 h2=>⟨h1,h2,rfl⟩) sat6 (Mem.le.refl _ _) sat6.top (by simp) fun T7 H7 a7 m7 hq st7 le7 _=>?_
  refine wpListIn_nil ⟨rfl,T7,H7,m7,rfl,st7,hq.1,hq.2.1,hq.2.2,?_,le7⟩
  refine Mem.le.trans le6 le7 fun n b h _=>?_
  rw [htop n (Nat.zero_le _)] at h;cases h

theorem Sub1.aggd {l r:List D} (h:Subs (l.map V.d) (r.map V.d)):Sub1 (.d (.agg l)) (.d (.agg r)):=fun m v k=>by
 rw [V.rep_d] at k ⊢
 unfold D.rep at k ⊢
 obtain ⟨vs,h1,h2,h3⟩:=k
 exact ⟨vs,h1,h2,V.reps_map_d.1 (h m vs (V.reps_map_d.2 h3))⟩
theorem Sub1.pl0 (e:D):Sub1 (.tup [.d (.agg [.int .i64 0,.int .i64 0,.nilsl,.nilsl]),.d e]) (.tup [.d (plD ⟨0,0,0,0⟩),.d e]) :=
 Sub1.tup (Subs.cons (Sub1.aggd (Subs.cons (Sub1.refl _) (Subs.cons (Sub1.refl _) (Subs.cons Sub1.nil (Subs.cons Sub1.nil (Subs.refl _)))))) (Subs.refl _))

theorem o_xb (s k:Int):Eqn Tryz.prog o_mh [.d (.int .i64 s),.d (.int .i64 k)] [] (.tup [.d (plD (atP s k)),.d (.int .i64 (atE s k))]) []:=by
 by_cases hs:1≤s∧s≤5
 ·by_cases hk:0≤k∧k≤1023
  ·have e:atE s k=0:=by rw [atE,if_pos hs,if_pos hk]
   obtain ⟨s,rfl⟩:∃n:Nat,s=n:=⟨s.toNat,by omega⟩
   obtain ⟨k,rfl⟩:∃n:Nat,k=n:=⟨k.toNat,by omega⟩
   rw [atP,if_pos e,e]
   exact o_xa s k (by omega) (by omega) (by omega)
  ·have e:atE s k=2:=by rw [atE,if_pos hs,if_neg hk]
   rw [atP,if_neg (by rw [e];omega),e]
   refine Eqn.pure o_mj (o_ol _ _) ?_
   simp only [o_mi]
   refine G0 ?_;try with_reducible exact tt
   refine CallS.pu (o_wk s) (R0 ?_);try with_reducible exact tt
   refine AW.cond rfl (fun h=>?_) (fun h=>?_)
   ·simp [hs] at h
   by_cases h0:k<0
   ·refine G1 h0 ?_;try with_reducible exact tt
    refine AW.cond rfl (fun h=>?_) (fun h=>?_)
    ·refine G0 ?_;try with_reducible exact tt
     exact Sub1.pl0 _
    ·simp [h0] at h
   ·have h1:1023<k:=by omega
    refine G1 (fs h0 h1) ?_;try with_reducible exact tt
    refine AW.cond rfl (fun h=>?_) (fun h=>?_)
    ·refine G0 ?_;try with_reducible exact tt
     exact Sub1.pl0 _
    ·simp [h0,h1] at h
 ·have e:atE s k=10:=by rw [atE,if_neg hs]
  rw [atP,if_neg (by rw [e];omega),e]
  refine Eqn.pure o_mj (o_ol _ _) ?_
  simp only [o_mi]
  refine G0 ?_;try with_reducible exact tt
  refine CallS.pu (o_wk s) (R0 ?_);try with_reducible exact tt
  refine AW.cond rfl (fun h=>?_) (fun h=>?_)
  ·refine G0 ?_;try with_reducible exact tt
   exact Sub1.pl0 _
  ·simp at h
   omega
end
section
open Go.RowKit
end
section
open Go.RowKit
theorem o_xc {d k:Nat} (hd:d≤8) (hk:k≤1023):wrongZ d [(k:Int)]=0:=by
 rw [wrongZ,if_pos (by omega),if_pos]
 simp [okK];omega

theorem o_xd (d k:Nat) (hd:d≤8) (hk:k≤1023) (hu:k/2^d<64) :
  Eqn Tryz.prog o_le [.d (.int .i64 d),.d (.int .i64 k)] [] (.tup [.d (.agg [natW 1,.bool false,natW (2^(k/2^d)-1)]),.d (.int .i64 0)]) []:=by
 refine Eqn.pure o_lg (o_ol _ _) ?_
 refine cc (c':=?z101) ?_ ?_
 case refine_1=>cbv<;>exact rfl
 refine G0 ?_;try with_reducible exact tt
 refine CallS.pf 1 1 ⟨3,_⟩ [.int .i64 k] (o_v2 d k) (by first | rfl | (simp;done)) (R0 ?_);try with_reducible exact tt
 have hw:=o_xc hd hk
 refine AW.cond rfl (fun h=>?_) (fun h=>?_)
 ·simp [hw] at h
 have hp:=o_v1 d k (by omega) (by omega)
 generalize k/2^d=u at hp hu ⊢
 refine G0 ?_;try with_reducible exact tt
 refine CallS.pu (hp) (R0 ?_);try with_reducible exact tt
 refine CallS.pu (o_pf u hu) (R0 ?_);try with_reducible exact tt

theorem o_xe (cs:List Bool) (h:cs.length≤1048576):Eqn Tryz.prog o_7y [.d (BL cs)] [] (.p 0 0) [tapeO cs 0 false]:=by
 refine Eqn.new1 o_80 ⟨rfl,fun _=>rfl⟩ ?_
 refine cc (c':=?z102) ?_ ?_
 case refine_1=>cbv<;>exact rfl
 try simp only [BL]
 have e:min (cs.length:Int) 1048576=cs.length:=by omega
 have e2:List.take cs.length (cs.map D.bool)=cs.map D.bool:=List.take_of_length_le (by simp)
 refine G1 (fs e e2) ?_;try with_reducible exact tt
 refine CallS.pu (o_uv cs.length (cs.map .bool) (by simp) (by omega)) (R0 ?_);try with_reducible exact tt
 exact Subs.refl _

def p2 (n:Nat):Nat:=2^n
theorem o_xf:p2 0=1:=rfl
theorem o_xg (n:Nat):p2 (n+1)=2*p2 n:=by rw [p2,p2,Nat.pow_succ,Nat.mul_comm]
theorem o_xh (n:Nat):0<p2 n:=Nat.two_pow_pos n
theorem o_xi {n m:Nat} (h:n≤m):p2 n≤p2 m:=Nat.pow_le_pow_right (by omega) h

theorem o_xj (d:Nat) (hd:d≤60):Eqn Tryz.prog o_ba [.d (.int .i64 d)] [] (.d (.int .i64 (p2 d))) []:=by
 refine Eqn.pure o_bc (o_5e _) ?_
 refine cc (c':=?z103) ?_ ?_
 case refine_1=>cbv<;>exact rfl
 refine G0 ?_;try with_reducible exact tt
 refine AW.loopT (α:=Nat) 0 (fun i=>[(4,.d (.int .i64 (i:Int))),(3,.d (.int .i64 (p2 i)))]) (fun i=>[]) (fun i=>i≤d) (fun i=>d-i) 0 ?_ ?_ (Nat.zero_le _) ?_ ?_ ?_
 ·simp
 ·simp
 ·simp [o_xf]
 ·simp
 rintro i hi
 have hle:p2 i≤2^60:=o_xi (m:=60) (by omega)
 simp
 by_cases h:i=d
 ·subst h
  refine G0 ?_;try with_reducible exact tt
  refine AW.cond rfl (fun h=>?_) (fun h=>?_)
  ·simp at h
  refine G0 ?_;try with_reducible exact tt
 ·have hlt:(i:Int)<d:=by omega
  have hlt':i<d:=by omega
  have e1:IntKind.i64.wrap (2*(p2 i:Int))=(p2 (i+1):Int):=by rw [o_xg];exact w64 (by omega) (by omega)
  have e2:IntKind.i64.wrap ((i:Int)+1)=(i:Int)+1:=w64 (by omega) (by omega)
  refine G1 (fs hlt hlt') ?_;try with_reducible exact tt
  refine AW.cond rfl (fun h=>?_) (fun h=>?_)
  ·refine G1 (fs e1 e2) ?_;try with_reducible exact tt
   exact ⟨i+1,by omega,by omega,by simp,by simp⟩
  ·simp [hlt'] at h

theorem o_xk (d k:Nat) (hd:d≤60) (hk:k≤9223372036854775807):Eqn Tryz.prog o_c1 [.d (.int .i64 d),.d (.int .i64 k)] [] (.d (.int .i64 (k/p2 d:Nat))) []:=by
 refine Eqn.pure o_c3 (o_5e _) ?_
 refine cc (c':=?z104) ?_ ?_
 case refine_1=>cbv<;>exact rfl
 have hp:=o_xh d
 refine G0 ?_;try with_reducible exact tt
 refine CallS.pu (o_xj d hd) (R0 ?_);try with_reducible exact tt
 have h0:¬p2 d=0:=by omega
 have hle:=Nat.div_le_self k (p2 d)
 have e:IntKind.i64.wrap ((k:Int)/p2 d)=(k:Int)/p2 d:=by
  rw [←Int.natCast_ediv]
  generalize k/p2 d=q at *
  exact w64 (by omega) (by omega)
 simp [h0,e]
 all_goals (refine G0 ?_;try with_reducible exact tt)
end
section
open Go.RowKit
theorem o_xl {s k:Int} (h:atE s k=0):1≤s∧s≤5∧0≤k∧k≤1023:=by
 unfold atE at h
 split at h
 ·split at h<;>omega
 ·omega
theorem o_xm {s k:Int} (h:atE s k=0):(atP s k).shift≤8192:=by
 have h1:=o_xl h
 rw [atP,if_pos h]
 exact (o_x2 (s:=s.toNat) (k:=k.toNat) (by omega) (by omega) (by omega)).2.1
end
section
open Go.RowKit
theorem o_xn (x:Nat) (hx:x<18446744073709551616):Eqn Tryz.prog o_b7 [.d (.int .u64 x)] [] (.d (.int .i64 (bitsN x))) []:=by
 refine Eqn.pure o_b9 (o_5e _) ?_
 refine cc (c':=?z107) ?_ ?_
 case refine_1=>cbv<;>exact rfl
 refine G0 ?_;try with_reducible exact tt
 refine AW.cond rfl (fun h=>?_) (fun h=>?_)
 ·simp at h
 refine G0 ?_;try with_reducible exact tt
 refine CallS.pu (o_qq x hx) (R0 ?_);try with_reducible exact tt

theorem o_xo (a w:Nat) (h1:1≤a) (h2:a≤4096) (w1:1≤w) (w2:w≤10) (hm:bitsN (a+1)*(2^w-1)≤8192):Eqn Tryz.prog o_84 [.d (.agg [.int .i64 1,.int .i64 a,.int .i64 w])] [] (.d (.int .i64 0)) []:=by
 refine Eqn.pure o_86 (o_5e _) ?_
 refine cc (c':=?z108) ?_ ?_
 case refine_1=>cbv<;>exact rfl
 have hk:=o_wj 1 a w
 rw [kindD,if_pos rfl] at hk
 have hg:=o_wh a
 rw [show decide (1≤(a:Int)∧(a:Int)≤4096)=true by simp;omega] at hg
 have g1:¬(w:Int)<1:=by omega
 have g2:¬(10:Int)<w:=by omega
 refine G0 ?_;try with_reducible exact tt
 refine CallS.pu (hk) (R1 (fs g1 g2) ?_);try with_reducible exact tt
 refine ⟨_,o_wb,?_⟩
 refine CallS.pu (hg) (R1 (fs g1 g2) ?_);try with_reducible exact tt
 refine AW.cond rfl (fun h=>?_) (fun h=>?_)
 ·simp [g1,g2] at h
 clear h
 have e1:IntKind.i64.wrap ((a:Int)+1)=((a+1:Nat):Int):=w64 (by omega) (by omega)
 have e2:IntKind.u64.wrap ((a+1:Nat):Int)=((a+1:Nat):Int):=wu64 (by omega) (by omega)
 have hb:=o_xn (a+1) (by omega)
 have hbl:bitsN (a+1)≤8192:=by
  refine Nat.le_trans (Nat.le_mul_of_pos_right _ ?_) hm
  have:=Nat.pow_le_pow_right (n:=2) (by omega) w1
  omega
 have h2':0<2^w:=Nat.two_pow_pos w
 have h2:2^w≤1024:=Nat.pow_le_pow_right (n:=2) (by omega) w2
 have e0:(2:Int)^w=(2^w:Nat):=by rw [Int.natCast_pow];rfl
 generalize 2^w=S at *
 generalize bitsN (a+1)=B at *
 generalize a+1=a1 at *
 have e3:IntKind.i64.wrap (S:Int)=S:=w64 (by omega) (by omega)
 have e4:IntKind.i64.wrap ((S:Int)-1)=((S-1:Nat):Int):=by rw [w64 (by omega) (by omega)];omega
 have e5:IntKind.i64.wrap ((B:Int)*((S-1:Nat):Int))=((B*(S-1):Nat):Int):=by
  rw [←Int.natCast_mul]
  generalize B*(S-1)=x at *
  exact w64 (by omega) (by omega)
 have g3:¬(8192:Int)<((B*(S-1):Nat):Int):=by omega
 generalize hS1:S-1=S1 at *
 obtain ⟨x,hx⟩:∃x,x=B*S1:=⟨_,rfl⟩
 rw [←hx] at e5 g3
 refine G1 (fs e1 e2) ?_;try with_reducible exact tt
 refine CallS.pu (hb) (R1 (fs e0 (fs e3 (fs e4 (fs e5 g3)))) ?_);try with_reducible exact tt
 refine AW.cond rfl (fun h=>?_) (fun h=>?_)
 ·simp [g3] at h
 refine G0 ?_;try with_reducible exact tt

theorem o_xp (a:Int):Eqn Tryz.prog o_lz [.d (.int .i64 a)] [] (.d (.bool (decide (1≤a∧a≤5)))) []:=by
 refine Eqn.pure o_m1 (o_5e _) ?_
 refine cc (c':=?z109) ?_ ?_
 case refine_1=>cbv<;>exact rfl
 refine G0 ?_;try with_reducible exact tt
 refine CallS.pu (o_wk a) (R0 ?_);try with_reducible exact tt

theorem o_xq (a w:Nat) (h2:a≤8) (w1:1≤w) (w2:w≤10):Eqn Tryz.prog o_84 [.d (.agg [.int .i64 2,.int .i64 a,.int .i64 w])] [] (.d (.int .i64 0)) []:=by
 refine Eqn.pure o_86 (o_5e _) ?_
 refine cc (c':=?z110) ?_ ?_
 case refine_1=>cbv<;>exact rfl
 have hk:=o_wj 2 a w
 rw [kindD,if_neg (by omega),if_pos rfl] at hk
 have hg:=o_wi a
 rw [show decide (0≤(a:Int)∧(a:Int)≤8)=true by simp;omega] at hg
 have g1:¬(w:Int)<1:=by omega
 have g2:¬(10:Int)<w:=by omega
 refine G0 ?_;try with_reducible exact tt
 refine CallS.pu (hk) (R1 (fs g1 g2) ?_);try with_reducible exact tt
 refine ⟨_,o_wc,?_⟩
 refine CallS.pu (hg) (R1 (fs g1 g2) ?_);try with_reducible exact tt
 refine AW.cond rfl (fun h=>?_) (fun h=>?_)
 ·simp [g1,g2] at h
 clear h
 refine G0 ?_;try with_reducible exact tt
 refine AW.cond rfl (fun h=>?_) (fun h=>?_)
 ·simp at h
 refine G0 ?_;try with_reducible exact tt
theorem o_xr (a w:Nat) (h1:1≤a) (h2:a≤5) (w1:1≤w) (w2:w≤10):Eqn Tryz.prog o_84 [.d (.agg [.int .i64 3,.int .i64 a,.int .i64 w])] [] (.d (.int .i64 0)) []:=by
 refine Eqn.pure o_86 (o_5e _) ?_
 refine cc (c':=?z111) ?_ ?_
 case refine_1=>cbv<;>exact rfl
 have hk:=o_wj 3 a w
 rw [kindD,if_neg (by omega),if_neg (by omega),if_pos rfl] at hk
 have hg:=o_xp a
 rw [show decide (1≤(a:Int)∧(a:Int)≤5)=true by simp;omega] at hg
 have g1:¬(w:Int)<1:=by omega
 have g2:¬(10:Int)<w:=by omega
 refine G0 ?_;try with_reducible exact tt
 refine CallS.pu (hk) (R1 (fs g1 g2) ?_);try with_reducible exact tt
 refine ⟨_,o_wd,?_⟩
 refine CallS.pu (hg) (R1 (fs g1 g2) ?_);try with_reducible exact tt
 refine AW.cond rfl (fun h=>?_) (fun h=>?_)
 ·simp [g1,g2] at h
 clear h
 refine G0 ?_;try with_reducible exact tt
 refine AW.cond rfl (fun h=>?_) (fun h=>?_)
 ·simp at h
 refine G0 ?_;try with_reducible exact tt
end
section
open Go.RowKit
def parD (k a w:Int):D:=.agg [.int .i64 k,.int .i64 a,.int .i64 w]
theorem o_xs (k a:Int) (w:Nat) (w2:w≤10) (hc:Eqn Tryz.prog o_84 [.d (parD k a w)] [] (.d (.int .i64 0)) []):Eqn Tryz.prog o_87 [.d (parD k a w)] [] (.d (.int .i64 (2^w-1:Nat))) []:=by
 refine Eqn.pure o_89 (o_5e _) ?_
 refine cc (c':=?z112) ?_ ?_
 case refine_1=>cbv<;>exact rfl
 try simp only [parD] at hc ⊢
 have h2':0<2^w:=Nat.two_pow_pos w
 have h2:2^w≤1024:=Nat.pow_le_pow_right (n:=2) (by omega) w2
 have e0:(2:Int)^w=(2^w:Nat):=by rw [Int.natCast_pow];rfl
 generalize 2^w=S at *
 have e3:IntKind.i64.wrap (S:Int)=S:=w64 (by omega) (by omega)
 have e4:IntKind.i64.wrap ((S:Int)-1)=((S-1:Nat):Int):=by rw [w64 (by omega) (by omega)];omega
 generalize S-1=S1 at *
 refine G0 ?_;try with_reducible exact tt
 refine CallS.pu (hc) (R0 ?_);try with_reducible exact tt
 refine AW.cond rfl (fun h=>?_) (fun h=>?_)
 ·simp at h
 refine G1 (fs e0 (fs e3 e4)) ?_;try with_reducible exact tt

theorem o_xt (k a:Int) (w:Nat) (w2:w≤10) (x:Int) (h0:0≤x) (h1:x≤(2^w-1:Nat)) (hc:Eqn Tryz.prog o_84 [.d (parD k a w)] [] (.d (.int .i64 0)) []):Eqn Tryz.prog o_8d [.d (parD k a w),.d (.sl 1 [.int .i64 x])] [] (.d (.int .i64 0)) []:=by
 refine Eqn.pure o_8f (o_5e _) ?_
 have ht:=o_xs k a w w2 hc
 refine cc (c':=?z113) ?_ ?_
 case refine_1=>cbv<;>exact rfl
 try simp only [parD] at hc ht ⊢
 generalize 2^w-1=S at *
 refine G0 ?_;try with_reducible exact tt
 refine CallS.pu (hc) (R0 ?_);try with_reducible exact tt
 refine AW.cond rfl (fun h=>?_) (fun h=>?_)
 ·simp at h
 refine G0 ?_;try with_reducible exact tt
 refine AW.loopT (α:=Nat) 1 (fun i=>[(15,.d (.int .i64 (i:Int)))]) (fun i=>[]) (fun i=>i≤1) (fun i=>1-i) 0 ?_ ?_ (Nat.zero_le _) ?_ ?_ ?_
 ·simp
 ·simp
 ·simp
 ·simp
 rintro i hi
 simp
 have g1:¬x<0:=by omega
 have g2:¬(S:Int)<x:=by omega
 by_cases h:i=1
 ·subst h
  refine G0 ?_;try with_reducible exact tt
  refine AW.cond rfl (fun h=>?_) (fun h=>?_)
  ·simp at h
  refine AW.exit ?_
  (try (simp -implicitDefEqProofs;try simp (disch:=omega) only [w64,wu64]))
  refine G0 ?_;try with_reducible exact tt
 ·obtain rfl:i=0:=by omega
  refine G0 ?_;try with_reducible exact tt
  refine AW.cond rfl (fun h=>?_) (fun h=>?_)
  ·refine G1 (fs g1 g2) ?_;try with_reducible exact tt
   refine CallS.pu (ht) (R1 (fs g1 g2) ?_);try with_reducible exact tt
   refine AW.cond rfl (fun h=>?_) (fun h=>?_)
   ·simp [g1,g2] at h
   have ew:IntKind.i64.wrap 1=1:=w64 (by omega) (by omega)
   refine G1 ew ?_;try with_reducible exact tt
   exact ⟨1,by omega,by omega,by simp⟩
  ·simp at h
end
section
open Go.RowKit
theorem o_xu (cs:List Bool) (a k:Int) (p:Nat) (dd:Bool) (hp:p≤cs.length) (hn:cs.length≤4000000) :
  Eqn Tryz.prog o_jz [.d (.int .i64 a),.p 0 0,.d (.int .i64 k)] [tapeO cs p dd] (.tup [.d (.bool (stepM cs a k p dd).1),.d (.int .i64 (stepM cs a k p dd).2.1)]) [tapeO cs (stepM cs a k p dd).2.2.1 (stepM cs a k p dd).2.2.2]:=by
 refine Eqn.obj1 o_k1 (o_ol _ _) ⟨rfl,fun _=>rfl⟩ ?_
 refine cc (c':=?z114) ?_ ?_
 case refine_1=>cbv<;>exact rfl
 have hh:=o_vh cs a k p dd hp hn
 generalize stepM cs a k p dd=R at *
 obtain ⟨R1,R2,R3,R4⟩:=R
 simp only at hh ⊢
 refine G0B ?_;try with_reducible exact tt
 refine CallS.o1 0 (hh) (R0B ?_);try with_reducible exact tt

theorem o_xv {T1 t2 ti : TypeId} {d : D} {g : FuncId} {cs : List Bool} {k : Int} {p : Nat} {dd r1 : Bool} {r2 : Int} {r3 : Nat} {r4 : Bool} (hm : MethOK Tryz.prog ti "tallymark/chain.step" g) (h1 : T1 < 1000000) (h2 : t2 < 1000000)
  (E:Eqn Tryz.prog g [.d d,.p 0 0,.d (.int .i64 k)] [tapeO cs p dd] (.tup [.d (.bool r1),.d (.int .i64 r2)]) [tapeO cs r3 r4]) :
  Eqn Tryz.prog o_8m [.d (.int .i64 k),.p 1 0,.p 2 0] [tapeO cs p dd,⟨T1,[.d (.ifc ti d)]⟩,⟨t2,[.p 0 0]⟩] (.tup [.d (.bool r1),.d (.int .i64 r2)]) [tapeO cs r3 r4,⟨T1,[.d (.ifc ti d)]⟩,⟨t2,[.p 0 0]⟩]:=by
 refine Eqn.obj3 o_8o (o_ol _ _) ⟨rfl,fun _=>rfl⟩ ⟨rfl,fun _=>rfl⟩ ?_
 refine cc (c':=?z115) ?_ ?_
 case refine_1=>cbv<;>exact rfl
 refine G1B (fs h1 h2) ?_;try with_reducible exact tt
 refine ⟨_,hm,?_⟩
 refine CallS.o1 0 (E) (R1B (fs h1 h2) ?_);try with_reducible exact tt
end
section
open Go.RowKit
theorem o_xw {T1 t2 ti:TypeId} (h1:T1<1000000) (h2:t2<1000000) {d:D} {cs:List Bool} {p:Nat} {dd:Bool} (k a:Int) (w:Nat) (w2:w≤10) (full:Bool) (hc:Eqn Tryz.prog o_84 [.d (parD k a w)] [] (.d (.int .i64 0)) []) :
  Eqn Tryz.prog o_8j [.d (parD k a w),.d (.agg [.int .i64 (2^w-1:Nat),.bool full]),.fn (.func o_8m) [.p 1 0,.p 2 0]] [tapeO cs p dd,⟨T1,[.d (.ifc ti d)]⟩,⟨t2,[.p 0 0]⟩] (.tup [.d (.agg [.int .i64 (2^w-1:Nat),.bool true]),.d (.int .i64 0)]) [tapeO cs p dd,⟨T1,[.d (.ifc ti d)]⟩,⟨t2,[.p 0 0]⟩]:=by
 refine Eqn.obj3 o_8l (o_ol _ _) ⟨rfl,fun _=>rfl⟩ ⟨rfl,fun _=>rfl⟩ ?_
 have ht:=o_xs k a w w2 hc
 refine cc (c':=?z116) ?_ ?_
 case refine_1=>cbv<;>exact rfl
 try simp only [parD] at ht ⊢
 generalize 2^w-1=S at *
 refine G1B (fs h1 h2) ?_;try with_reducible exact tt
 refine CallS.pu (ht) (R1B (fs h1 h2) ?_);try with_reducible exact tt
 refine AW.cond rfl (fun h=>?_) (fun h=>?_)
 ·clear h
  refine G1B (fs h1 h2) ?_;try with_reducible exact tt
 ·simp at h

theorem o_xx {T1 t2 ti:TypeId} (h1:T1<1000000) (h2:t2<1000000) {d:D} {g:FuncId} {cs:List Bool} {x p:Nat} {dd r1:Bool} {r2:Int} {r3:Nat} {r4:Bool} (k a:Int) (w:Nat) (w2:w≤10) (full:Bool) (hx:x<2^w-1) (hc:Eqn Tryz.prog o_84 [.d (parD k a w)] [] (.d (.int .i64 0)) [])
  (hm : MethOK Tryz.prog ti "tallymark/chain.step" g) (E : Eqn Tryz.prog g [.d d, .p 0 0, .d (.int .i64 x)] [tapeO cs p dd] (.tup [.d (.bool r1), .d (.int .i64 r2)]) [tapeO cs r3 r4]) :
  Eqn Tryz.prog o_8j [.d (parD k a w),.d (.agg [.int .i64 x,.bool full]),.fn (.func o_8m) [.p 1 0,.p 2 0]] [tapeO cs p dd,⟨T1,[.d (.ifc ti d)]⟩,⟨t2,[.p 0 0]⟩] (.tup [.d (.agg [.int .i64 (if r1 then x+1 else x:Nat),.bool full]),.d (.int .i64 r2)]) [tapeO cs r3 r4,⟨T1,[.d (.ifc ti d)]⟩,⟨t2,[.p 0 0]⟩]:=by
 refine Eqn.obj3 o_8l (o_ol _ _) ⟨rfl,fun _=>rfl⟩ ⟨rfl,fun _=>rfl⟩ ?_
 have ht:=o_xs k a w w2 hc
 have h5:2^w-1≤1023:=by have:=Nat.pow_le_pow_right (n:=2) (by omega) w2;omega
 refine cc (c':=?z117) ?_ ?_
 case refine_1=>cbv<;>exact rfl
 try simp only [parD] at ht ⊢
 generalize 2^w-1=S at *
 have g1:¬x=S:=by omega
 have g2:¬(x:Int)=S:=by omega
 have ew:IntKind.i64.wrap ((x:Int)+1)=(x:Int)+1:=w64 (by omega) (by omega)
 have ha:=o_xv (T1:=T1) (t2:=t2) hm h1 h2 E
 refine G1B (fs h1 h2) ?_;try with_reducible exact tt
 refine CallS.pu (ht) (R1B (fs h1 h2) ?_);try with_reducible exact tt
 refine AW.cond rfl (fun h=>?_) (fun h=>?_)
 ·simp [g1,g2] at h
 clear h
 refine G1B (fs h1 h2) ?_;try with_reducible exact tt
 refine CallS.obj3 0 1 2 (ha) (by first | exact o_5e _ | exact o_ol _ _ | exact o_om _ _ _) ⟨rfl,fun _=>rfl⟩ ⟨rfl,fun _=>rfl⟩ ⟨rfl,fun _=>rfl⟩ rfl (by rfl) (by rfl) (by rfl) (by decide) (Subs.of (by simp)) (R1B (fs h1 h2) ?_);try with_reducible exact tt
 cases r1 with
 | true =>
  refine AW.cond rfl (fun h=>?_) (fun h=>?_)
  ·refine G1B (fs ew (fs h1 h2)) ?_;try with_reducible exact tt
  ·simp at h
 | false =>
  refine AW.cond rfl (fun h=>?_) (fun h=>?_)
  ·simp at h
  ·refine G1B (fs ew (fs h1 h2)) ?_;try with_reducible exact tt
end
section
open Go.RowKit
def stepG (cs:List Bool) (d k:Int) (p:Nat) (dd:Bool):Bool×Int×Nat×Bool:=if wrongZ d [k]=0 then halfR cs (k.toNat/2^d.toNat) p dd else (false,wrongZ d [k],p,dd)

theorem o_xy (cs:List Bool) (d k:Int) (p:Nat) (dd:Bool) (hp0:p≤cs.length) (hn:cs.length≤4000000) :
  Eqn Tryz.prog o_lk [.p 0 0,.d (.int .i64 d),.d (.int .i64 k)] [tapeO cs p dd] (.tup [.d (.bool (stepG cs d k p dd).1),.d (.int .i64 (stepG cs d k p dd).2.1)]) [tapeO cs (stepG cs d k p dd).2.2.1 (stepG cs d k p dd).2.2.2]:=by
 refine Eqn.obj1 o_lm (o_ol _ _) ⟨rfl,fun _=>rfl⟩ ?_
 refine cc (c':=?z118) ?_ ?_
 case refine_1=>cbv<;>exact rfl
 refine G0B ?_;try with_reducible exact tt
 refine CallS.pf 1 1 ⟨3,_⟩ [.int .i64 k] (o_v2 d k) (by first | rfl | (simp;done)) (R0 ?_);try with_reducible exact tt
 by_cases h:wrongZ d [k]=0
 ·obtain ⟨h1,h2,h3,h4⟩:=o_v4 h
  obtain ⟨d,rfl⟩:∃n:Nat,d=n:=⟨d.toNat,by omega⟩
  obtain ⟨k,rfl⟩:∃n:Nat,k=n:=⟨k.toNat,by omega⟩
  simp only [stepG,h,if_true]
  have hpt:=o_v1 d k (by omega) (by omega)
  have hu:k/2^d≤k:=Nat.div_le_self _ _
  simp only [Int.toNat_natCast]
  generalize k/2^d=u at hpt hu ⊢
  generalize partV d k=v at hpt
  refine AW.cond rfl (fun h=>?_) (fun h=>?_)
  ·simp [*] at h
  refine G0 ?_;try with_reducible exact tt
  refine CallS.pu (hpt) (R0 ?_);try with_reducible exact tt
  have hh:=o_uy cs p dd u (by omega) hp0 hn
  rw [Int.toNat_natCast] at hh
  generalize halfR cs u p dd=r at hh ⊢
  obtain ⟨r1,r2,r3,r4⟩:=r
  simp only at hh ⊢
  refine CallS.o1 0 (hh) (R0 ?_);try with_reducible exact tt
 ·simp only [stepG,h,if_false]
  refine AW.cond rfl (fun h=>?_) (fun h=>?_)
  ·refine G0 ?_;try with_reducible exact tt
  ·simp [*] at h


theorem o_xz (cs:List Bool) (a k:Int) (p:Nat) (dd:Bool) (hp:p≤cs.length) (hn:cs.length≤4000000) :
  Eqn Tryz.prog o_l8 [.d (.int .i64 a),.p 0 0,.d (.int .i64 k)] [tapeO cs p dd] (.tup [.d (.bool (stepG cs a k p dd).1),.d (.int .i64 (stepG cs a k p dd).2.1)]) [tapeO cs (stepG cs a k p dd).2.2.1 (stepG cs a k p dd).2.2.2]:=by
 refine Eqn.obj1 o_la (o_ol _ _) ⟨rfl,fun _=>rfl⟩ ?_
 refine cc (c':=?z119) ?_ ?_
 case refine_1=>cbv<;>exact rfl
 have hh:=o_xy cs a k p dd hp hn
 generalize stepG cs a k p dd=R at *
 obtain ⟨R1,R2,R3,R4⟩:=R
 simp only at hh ⊢
 refine G0B ?_;try with_reducible exact tt
 refine CallS.o1 0 (hh) (R0B ?_);try with_reducible exact tt
def stepYG (cs:List Bool) (s k:Int) (q:Nat) (dd:Bool):Bool×Int×Nat×Bool:=if atE s k=0 then halfR cs (atP s k).shift q dd else (false,atE s k,q,dd)
theorem o_y0 (cs:List Bool) (s k:Int) (q:Nat) (dd:Bool) (hp0:q≤cs.length) (hn:cs.length≤4000000) :
  Eqn Tryz.prog o_me [.p 0 0,.d (.int .i64 s),.d (.int .i64 k)] [tapeO cs q dd] (.tup [.d (.bool (stepYG cs s k q dd).1),.d (.int .i64 (stepYG cs s k q dd).2.1)]) [tapeO cs (stepYG cs s k q dd).2.2.1 (stepYG cs s k q dd).2.2.2]:=by
 refine Eqn.obj1 o_mg (o_ol _ _) ⟨rfl,fun _=>rfl⟩ ?_
 refine cc (c':=?z120) ?_ ?_
 case refine_1=>cbv<;>exact rfl
 have ha:=o_xb s k
 have hsh:=o_xm (s:=s) (k:=k)
 have hst:stepYG cs s k q dd=if atE s k=0 then halfR cs (atP s k).shift q dd else (false,atE s k,q,dd):=rfl
 rw [hst]
 clear hst
 generalize atP s k=p at *
 obtain ⟨px,ps,pv,pr⟩:=p
 simp only [plD] at ha hsh ⊢
 generalize atE s k=e at *
 refine G0 ?_;try with_reducible exact tt
 refine CallS.pu (ha) (R0 ?_);try with_reducible exact tt
 by_cases h:e=0
 ·subst h
  refine AW.cond rfl (fun h=>?_) (fun h=>?_)
  ·simp at h
  have hh:=o_uy cs q dd ps (by have:=hsh rfl;omega) hp0 hn
  rw [Int.toNat_natCast] at hh
  simp only [if_true]
  generalize halfR cs ps q dd=r at hh ⊢
  obtain ⟨r1,r2,r3,r4⟩:=r
  simp only at hh ⊢
  refine G0B ?_;try with_reducible exact tt
  refine CallS.o1 0 (hh) (R0B ?_);try with_reducible exact tt
 ·simp only [if_neg h]
  refine AW.cond rfl (fun h=>?_) (fun h=>?_)
  ·refine G0 ?_;try with_reducible exact tt
  ·simp [*] at h


theorem o_y1 (cs:List Bool) (a k:Int) (p:Nat) (dd:Bool) (hp:p≤cs.length) (hn:cs.length≤4000000) :
  Eqn Tryz.prog o_m2 [.d (.int .i64 a),.p 0 0,.d (.int .i64 k)] [tapeO cs p dd] (.tup [.d (.bool (stepYG cs a k p dd).1),.d (.int .i64 (stepYG cs a k p dd).2.1)]) [tapeO cs (stepYG cs a k p dd).2.2.1 (stepYG cs a k p dd).2.2.2]:=by
 refine Eqn.obj1 o_m4 (o_ol _ _) ⟨rfl,fun _=>rfl⟩ ?_
 refine cc (c':=?z121) ?_ ?_
 case refine_1=>cbv<;>exact rfl
 have hh:=o_y0 cs a k p dd hp hn
 generalize stepYG cs a k p dd=R at *
 obtain ⟨R1,R2,R3,R4⟩:=R
 simp only at hh ⊢
 refine G0B ?_;try with_reducible exact tt
 refine CallS.o1 0 (hh) (R0B ?_);try with_reducible exact tt
end
section
abbrev StepT:=Nat→Nat→Bool→Bool×Int×Nat×Bool
def addL (st:StepT) (top:Nat):Nat→Nat→Bool→Nat→Bool→Int×Nat×Bool×Nat×Bool
 | 0,x,f,p,d=>(0,x,f,p,d)
 | n+1,x,f,p,d =>
  if x=top then (0,x,true,p,d)
  else if (st x p d).2.1=0 then
   if f=true∧(if (st x p d).1 then x+1 else x)=top then (0,top,f,(st x p d).2.2.1,(st x p d).2.2.2)
   else addL st top n (if (st x p d).1 then x+1 else x) f (st x p d).2.2.1 (st x p d).2.2.2
  else ((st x p d).2.1,x,f,(st x p d).2.2.1,(st x p d).2.2.2)

theorem o_y2 {st:StepT} {top:Nat} {N:Nat} (hst:∀x p d,p≤N→(st x p d).2.2.1≤N):∀(n x:Nat) (f:Bool) (p:Nat) (d:Bool),x≤top→p≤N→x≤(addL st top n x f p d).2.1∧(addL st top n x f p d).2.1≤top∧(addL st top n x f p d).2.2.2.1≤N
 | 0,x,f,p,d,hx,hp=>by simp [addL,hx,hp]
 | n+1,x,f,p,d,hx,hp=>by
  rw [addL]
  have:=hst x p d hp
  by_cases h:x=top
  ·simp [h,hp]
  ·simp only [if_neg h]
   by_cases he:(st x p d).2.1=0
   ·simp only [if_pos he]
    have hz:x≤(if (st x p d).1 then x+1 else x)∧(if (st x p d).1 then x+1 else x)≤top:=by split<;>omega
    generalize (if (st x p d).1 then x+1 else x)=z at *
    split
    ·exact ⟨hx,Nat.le_refl _,this⟩
    ·have:=o_y2 hst n z f _ (st x p d).2.2.2 hz.2 this
     exact ⟨by omega,this.2⟩
   ·simp only [if_neg he]
    exact ⟨Nat.le_refl _,hx,this⟩
end
section
open Go.RowKit
structure StepOf (cs:List Bool) (ti:TypeId) (d:D) (g:FuncId) (st:StepT):Prop where
 meth : MethOK Tryz.prog ti "tallymark/chain.step" g
 run:∀(x p:Nat) (dd:Bool),p≤cs.length→Eqn Tryz.prog g [.d d,.p 0 0,.d (.int .i64 x)] [tapeO cs p dd] (.tup [.d (.bool (st x p dd).1),.d (.int .i64 (st x p dd).2.1)]) [tapeO cs (st x p dd).2.2.1 (st x p dd).2.2.2]
 le:∀(x p:Nat) (dd:Bool),p≤cs.length→(st x p dd).2.2.1≤cs.length

theorem o_y3 (cs:List Bool) (k a:Int) (w:Nat) (w2:w≤10) (ti:TypeId) (d:D) (g:FuncId) (st:StepT) (hst:StepOf cs ti d g st) (hk:kindD k a = .ifc ti d) (hc:Eqn Tryz.prog o_84 [.d (parD k a w)] [] (.d (.int .i64 0)) [])
  (x:Nat) (hx:x≤2^w-1) (f:Bool) (n:Nat) (m:Int) (hmx:max 0 m=(n:Int)) (hn:m≤1048576) (p:Nat) (dd:Bool) (hp:p≤cs.length) (S:Int×Nat×Bool×Nat×Bool) (hS:S=addL st (2^w-1) n x f p dd) :
  Eqn Tryz.prog o_77 [.d (parD k a w),.p 0 0,.d (.agg [.int .i64 x,.bool f]),.d (.int .i64 m)] [tapeO cs p dd] (.tup [.d (.agg [.int .i64 (if S.1=0 then S.2.1 else x:Nat),.bool (if S.1=0 then S.2.2.1 else f)]),.d (.int .i64 S.1)]) [tapeO cs S.2.2.2.1 S.2.2.2.2]:=by
 refine Eqn.obj1 o_79 (o_ol _ _) ⟨rfl,fun _=>rfl⟩ ?_
 have hat:=o_xt k a w w2 x (by omega) (by omega) hc
 have hkd:=o_wj k a w
 rw [hk] at hkd
 refine cc (c':=?z122) ?_ ?_
 case refine_1=>cbv<;>exact rfl
 try simp only [parD] at hat ⊢
 refine G0B ?_;try with_reducible exact tt
 refine CallS.pf 5 1 ⟨3,_⟩ [.int .i64 x] (hat) (by first | rfl | (simp [-Bool.exists_bool];done)) (R0B ?_);try with_reducible exact tt
 refine AW.cond rfl (fun h=>?_) (fun h=>?_)
 ·simp at h
 clear h
 have g1:¬(1048576:Int)<m:=by omega
 have hnn:n≤1048576:=by omega
 refine G1B g1 ?_;try with_reducible exact tt
 refine AW.cond rfl (fun h=>?_) (fun h=>?_)
 ·simp [g1] at h
 clear h
 refine G0B ?_;try with_reducible exact tt
 refine CallS.pu (hkd) (R1B hmx ?_);try with_reducible exact tt
 refine AW.loopT (α:=Nat×Nat×Nat×Bool) 8 (fun s=>[(31,.d (.int .i64 (s.1:Int)))]) (fun s=>[(0,tapeO cs s.2.2.1 s.2.2.2),(7,⟨34,[.d (.int .i64 (s.2.1:Nat)),.d (.bool f)]⟩)]) (fun s=>s.1≤n∧s.2.1≤2^w-1∧s.2.2.1≤cs.length∧S=addL st (2^w-1) (n-s.1) s.2.1 f s.2.2.1 s.2.2.2) (fun s=>n-s.1) (0,x,p,dd) ?_ ?_ ⟨Nat.zero_le _,hx,hp,hS⟩ ?_ ?_ ?_
 ·simp
 ·simp
 ·simp
 ·simp
 rintro ⟨i,z,q,b⟩ ⟨hi,hz,hq,hS⟩
 simp only at hi hz hq hS
 simp [-Bool.exists_bool]
 have htop:=o_xs k a w w2 hc
 have ho1:=fun T1 t2 (h1:T1<1000000) (h2:t2<1000000)=>o_xw (T1:=T1) (t2:=t2) h1 h2 (ti:=ti) (d:=d) (cs:=cs) (p:=q) (dd:=b) k a w w2 f hc
 have ho2:=fun T1 t2 (h1:T1<1000000) (h2:t2<1000000) (hlt:z<2^w-1)=>o_xx (T1:=T1) (t2:=t2) h1 h2 k a w w2 f hlt hc hst.meth (hst.run z q b hq)
 have hle:=hst.le z q b hq
 have h2:2^w-1≤1023:=by have:=Nat.pow_le_pow_right (n:=2) (by omega) w2;omega
 simp only [parD] at ho1 ho2 htop
 generalize 2^w-1=W at *
 by_cases h:i=n
 ·subst h
  rw [Nat.sub_self,addL] at hS
  refine G0B ?_;try with_reducible exact tt
  refine AW.cond rfl (fun h=>?_) (fun h=>?_)
  ·simp at h
  refine AW.exit ?_
  (try (simp -implicitDefEqProofs [-Bool.exists_bool];try simp (disch:=omega) only [w64,wu64]))
  refine G0B ?_;try with_reducible exact tt
  simp [hS]
 ·have hlt:(i:Int)<n:=by omega
  have hlt':i<n:=by omega
  obtain ⟨r,hr⟩:∃r,n-i=r+1:=⟨n-i-1,by omega⟩
  have ew:IntKind.i64.wrap ((i:Int)+1)=(i:Int)+1:=w64 (by omega) (by omega)
  rw [hr,addL] at hS
  refine G1B (fs hlt hlt') ?_;try with_reducible exact tt
  refine AW.cond rfl (fun h=>?_) (fun h=>?_)
  ·clear h
   by_cases hzt:z=W
   ·subst hzt
    rw [if_pos rfl] at hS
    refine G0B ?_;try with_reducible exact tt
    refine CallS.obj3 0 6 2 (ho1 101 31 (by decide) (by decide)) (by first | exact o_5e _ | exact o_ol _ _ | exact o_om _ _ _) ⟨rfl,fun _=>rfl⟩ ⟨rfl,fun _=>rfl⟩ ⟨rfl,fun _=>rfl⟩ rfl (by rfl) (by rfl) (by rfl) (by decide) (Subs.of (by simp)) (R0B ?_);try with_reducible exact tt
    refine AW.cond rfl (fun h=>?_) (fun h=>?_)
    ·simp at h
    clear h
    refine G0B ?_;try with_reducible exact tt
    refine CallS.pu (htop) (R0B ?_);try with_reducible exact tt
    refine AW.cond rfl (fun h=>?_) (fun h=>?_)
    ·refine AW.exit ?_
     (try (simp -implicitDefEqProofs [-Bool.exists_bool];try simp (disch:=omega) only [w64,wu64]))
     refine G0B ?_;try with_reducible exact tt
     simp [hS]
    ·simp at h
   ·rw [if_neg hzt] at hS
    have ho2:=fun T1 t2 h1 h2=>ho2 T1 t2 h1 h2 (by omega)
    generalize st z q b=R at *
    obtain ⟨r1,r2,r3,r4⟩:=R
    simp only at hS ho2 hle
    have hz':(if r1=true then z+1 else z)≤W:=by split<;>omega
    generalize (if r1=true then z+1 else z)=z' at *
    refine G0B ?_;try with_reducible exact tt
    refine CallS.obj3 0 6 2 (ho2 101 31 (by decide) (by decide)) (by first | exact o_5e _ | exact o_ol _ _ | exact o_om _ _ _) ⟨rfl,fun _=>rfl⟩ ⟨rfl,fun _=>rfl⟩ ⟨rfl,fun _=>rfl⟩ rfl (by rfl) (by rfl) (by rfl) (by decide) (Subs.of (by simp)) (R0B ?_);try with_reducible exact tt
    by_cases hr2:r2=0
    ·subst hr2
     rw [if_pos rfl] at hS
     refine AW.cond rfl (fun h=>?_) (fun h=>?_)
     ·simp at h
     clear h
     cases f with
     | false =>
      rw [if_neg (by simp)] at hS
      refine G0B ?_;try with_reducible exact tt
      refine AW.cond rfl (fun h=>?_) (fun h=>?_)
      ·simp at h
      refine G1B ew ?_;try with_reducible exact tt
      exact ⟨i+1,z',r3,r4,⟨by omega,hz',hle,by rw [hS];congr 1;omega⟩,by omega,by simp⟩
     | true =>
      refine G0B ?_;try with_reducible exact tt
      refine CallS.pu (htop) (R0B ?_);try with_reducible exact tt
      by_cases hb:z'=W
      ·rw [if_pos ⟨rfl,hb⟩] at hS
       subst hb
       refine AW.cond rfl (fun h=>?_) (fun h=>?_)
       ·refine AW.exit ?_
        (try (simp -implicitDefEqProofs [-Bool.exists_bool];try simp (disch:=omega) only [w64,wu64]))
        refine G0B ?_;try with_reducible exact tt
        simp [hS]
       ·simp at h
      ·rw [if_neg (by simp [hb])] at hS
       have hb':¬(z':Int)=W:=by omega
       refine AW.cond rfl (fun h=>?_) (fun h=>?_)
       ·simp [hb,hb'] at h
       refine G1B ew ?_;try with_reducible exact tt
       exact ⟨i+1,z',r3,r4,⟨by omega,hz',hle,by rw [hS];congr 1;omega⟩,by omega,by simp⟩
    ·rw [if_neg hr2] at hS
     refine AW.cond rfl (fun h=>?_) (fun h=>?_)
     ·refine G0B ?_;try with_reducible exact tt
      simp [hS,hr2]
     ·simp [hr2] at h
  ·simp [hlt'] at h
theorem o_y4 (cs:List Bool) (k a:Int) (w:Nat) (w2:w≤10) (ti:TypeId) (d:D) (g:FuncId) (st:StepT) (hst:StepOf cs ti d g st) (hk:kindD k a = .ifc ti d) (hc:Eqn Tryz.prog o_84 [.d (parD k a w)] [] (.d (.int .i64 0)) [])
  (x:Nat) (hx:x≤2^w-1) (f:Bool) (n:Nat) (hn:n≤1048576) (p:Nat) (dd:Bool) (hp:p≤cs.length) (S:Int×Nat×Bool×Nat×Bool) (hS:S=addL st (2^w-1) n x f p dd) :
  Eqn Tryz.prog o_77 [.d (parD k a w),.p 0 0,.d (.agg [.int .i64 x,.bool f]),.d (.int .i64 n)] [tapeO cs p dd] (.tup [.d (.agg [.int .i64 (if S.1=0 then S.2.1 else x:Nat),.bool (if S.1=0 then S.2.2.1 else f)]),.d (.int .i64 S.1)]) [tapeO cs S.2.2.2.1 S.2.2.2.2] :=
 o_y3 cs k a w w2 ti d g st hst hk hc x hx f n n (by omega) (by omega) p dd hp S hS
end
section
open Go.RowKit
theorem o_y5 {cs:List Bool}:∀(k p:Nat) (dd:Bool),p≤cs.length→(halfR cs k p dd).2.2.1≤cs.length
 | 0,p,dd,h=>h
 | k+1,p,dd,h=>by
  rw [halfR]
  split
  ·exact o_y5 k _ _ (o_ux h)
  ·exact o_ux h
theorem o_y6 {cs:List Bool} {a q:Nat}:∀(k p:Nat) (dd:Bool),p≤cs.length→(powerR cs a q k p dd).2.2.1≤cs.length
 | 0,p,dd,h=>h
 | k+1,p,dd,h=>by
  rw [powerR]
  split
  ·exact o_y6 k _ _ (o_v9 h)
  ·exact o_v9 h
theorem o_y7 {cs:List Bool} {a k:Int} {p:Nat} {dd:Bool} (h:p≤cs.length):(stepM cs a k p dd).2.2.1≤cs.length:=by
 unfold stepM;split
 ·exact o_y6 _ _ _ h
 ·exact h
theorem o_y8 {cs:List Bool} {a k:Int} {p:Nat} {dd:Bool} (h:p≤cs.length):(stepG cs a k p dd).2.2.1≤cs.length:=by
 unfold stepG;split
 ·exact o_y5 _ _ _ h
 ·exact h
theorem o_y9 {cs:List Bool} {a k:Int} {p:Nat} {dd:Bool} (h:p≤cs.length):(stepYG cs a k p dd).2.2.1≤cs.length:=by
 unfold stepYG;split
 ·exact o_y5 _ _ _ h
 ·exact h

def stOf (cs:List Bool) (k a:Int):StepT:=fun x p dd=>if k=1 then stepM cs a x p dd else if k=2 then stepG cs a x p dd else stepYG cs a x p dd
def GoodS (k a w:Nat):Prop:=(k=1∧1≤a∧a≤4∨k=2∧a≤1∨k=3∧1≤a∧a≤2)∧1≤w∧w≤4

theorem o_ya {k a w:Nat} (h:GoodS k a w):Eqn Tryz.prog o_84 [.d (parD k a w)] [] (.d (.int .i64 0)) []:=by
 obtain ⟨h,h1,h2⟩:=h
 rcases h with ⟨rfl,h3,h4⟩ | ⟨rfl,h3⟩ | ⟨rfl,h3,h4⟩
 ·refine o_xo a w (by omega) (by omega) h1 (by omega) ?_
  have ha:a=1∨a=2∨a=3∨a=4:=by omega
  have hw:w=1∨w=2∨w=3∨w=4:=by omega
  rcases ha with rfl | rfl | rfl | rfl<;>rcases hw with rfl | rfl | rfl | rfl<;>decide
 ·exact o_xq a w (by omega) h1 (by omega)
 ·exact o_xr a w (by omega) (by omega) h1 (by omega)

theorem o_yb {k a w:Nat} (h:GoodS k a w) (cs:List Bool) (hn:cs.length≤4000000):∃ti d g,StepOf cs ti d g (stOf cs k a)∧kindD k a = .ifc ti d:=by
 obtain ⟨h,-⟩:=h
 rcases h with ⟨rfl,-⟩ | ⟨rfl,-⟩ | ⟨rfl,-⟩
 ·exact ⟨_,_,_,⟨o_we,fun x p dd hp=>o_xu cs a x p dd hp hn,fun x p dd hp=>o_y7 hp⟩,rfl⟩
 ·exact ⟨_,_,_,⟨o_wf,fun x p dd hp=>o_xz cs a x p dd hp hn,fun x p dd hp=>o_y8 hp⟩,rfl⟩
 ·exact ⟨_,_,_,⟨o_wg,fun x p dd hp=>o_y1 cs a x p dd hp hn,fun x p dd hp=>o_y9 hp⟩,rfl⟩

theorem o_yc {k a w:Nat} (h:GoodS k a w) (cs:List Bool) (hcs:cs.length≤4000000) (x:Nat) (hx:x≤2^w-1) (f:Bool) (n:Nat) (hn:n≤1048576) (p:Nat) (dd:Bool) (hp:p≤cs.length) (S:Int×Nat×Bool×Nat×Bool) (hS:S=addL (stOf cs k a) (2^w-1) n x f p dd) :
  Eqn Tryz.prog o_77 [.d (parD k a w),.p 0 0,.d (.agg [.int .i64 x,.bool f]),.d (.int .i64 n)] [tapeO cs p dd] (.tup [.d (.agg [.int .i64 (if S.1=0 then S.2.1 else x:Nat),.bool (if S.1=0 then S.2.2.1 else f)]),.d (.int .i64 S.1)]) [tapeO cs S.2.2.2.1 S.2.2.2.2]:=by
 obtain ⟨ti,d,g,h1,h2⟩:=o_yb h cs hcs
 exact o_y4 cs k a w (by have:=h.2;omega) ti d g _ h1 h2 (o_ya h) x hx f n hn p dd hp S hS

theorem o_yd (k m:Int) (hm:0<m):-m<k.tmod m∧k.tmod m<m:=by
 refine ⟨?_,Int.tmod_lt_of_pos _ hm⟩
 rcases (by omega:k<0∨0≤k) with h | h
 ·have:=Int.tmod_lt_of_pos (-k) hm
  rw [Int.neg_tmod] at this
  omega
 ·have:=Int.tmod_nonneg m h
  omega
theorem o_ye (k m:Int) (hm:0<m) (hm2:m≤4611686018427387904):IntKind.i64.wrap (k.tmod m+m)=k.tmod m+m∧∃r:Nat,(k.tmod m+m).tmod m=r∧r<m∧IntKind.i64.wrap (1+(r:Int))=((1+r:Nat):Int):=by
 have h:=o_yd k m hm
 have h0:0≤k.tmod m+m:=by omega
 refine ⟨w64 (by omega) (by omega),?_⟩
 have h1:=Int.tmod_nonneg m h0
 have h2:=Int.tmod_lt_of_pos (k.tmod m+m) hm
 obtain ⟨r,hr⟩:∃r:Nat,(k.tmod m+m).tmod m=r:=⟨((k.tmod m+m).tmod m).toNat,by omega⟩
 exact ⟨r,hr,by omega,by rw [w64 (by omega) (by omega)];omega⟩
theorem o_yf (k:Int) (m:Nat) (hm:m≤4611686018427387904):∃n:Nat,bits BinOp.and IntKind.i64 k (m:Int)=n∧n≤m∧IntKind.i64.wrap (1+(n:Int))=((1+n:Nat):Int):=by
 refine ⟨(BitVec.ofInt 64 k).toNat &&& m,?_,Nat.and_le_right,?_⟩
 ·have hm':m%2^64=m:=Nat.mod_eq_of_lt (by omega)
  have hle:(BitVec.ofInt 64 k).toNat &&& m≤m:=Nat.and_le_right
  show IntKind.i64.wrap (((BitVec.ofInt 64 k) &&& (BitVec.ofInt 64 (m:Int))).toNat:Int)=_
  rw [BitVec.toNat_and,BitVec.ofInt_natCast,BitVec.toNat_ofNat,hm']
  generalize (BitVec.ofInt 64 k).toNat &&& m=n at *
  exact w64 (by omega) (by omega)
 ·have hle:(BitVec.ofInt 64 k).toNat &&& m≤m:=Nat.and_le_right
  generalize (BitVec.ofInt 64 k).toNat &&& m=n at *
  rw [w64 (by omega) (by omega)];omega

theorem o_yg (k a w:Int):Eqn Tryz.prog o_6y [.d (parD k a w)] [] (.d (parD k a w)) []:=by
 refine Eqn.pure o_70 (o_5e _) ?_
 refine cc (c':=?z124) ?_ ?_
 case refine_1=>cbv<;>exact rfl
 try simp only [parD]
 refine G0 ?_;try with_reducible exact tt
end
end Go.Proofs.YtabnkmpkcfjkmaaGreatDoor.Am
