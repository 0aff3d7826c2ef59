/- Parts of the proof: Dec6, RtA, RtB, DecT, AmEv, EvN, ShL, ScrM, ShM, AmLaw, AmLaw2, AmLaw3, ShC, ShB, ScrS, ShM2, AmLB, ShS, ScO, ScQ, ScR, ScT, ScU, AmCu, ScX, ScV, ShI, ScA, ScB, ScP, AmLE, ScC, ScD. -/
import Derived.Test.YtdakiocgijlgiaaGreatDoorPc
set_option linter.unusedVariables false
set_option linter.unusedSimpArgs false
set_option maxRecDepth 100000
namespace Go.Proofs.YtdakiocgijlgiaaGreatDoor.Am
section
open Go.RowKit
theorem o_jw (B hi lo w:Nat) (hB:B≤4294967296) (h1:hi≤4294967296) (h2:lo≤4294967296) (hw:hi*B+lo=w):∃N0 N1 N2 N3 N4 N5:D,Eqn Tryz.prog o_dn [.d (.int .i64 B)] [] (.d N3) []∧Eqn Tryz.prog o_dh [.d N3,.d N3] [] (.d N1) []∧Eqn Tryz.prog o_dh [.d .nilsl,.d N1] [] (.d N0) []∧Eqn Tryz.prog o_dn [.d (.int .i64 hi)] [] (.d N4) []∧Eqn Tryz.prog o_dn [.d (.int .i64 lo)] [] (.d N5) []∧Eqn Tryz.prog o_dh [.d N4,.d N3] [] (.d N2) []∧Eqn Tryz.prog o_db [.d N2,.d N5] [] (.d (nD w)) []∧Eqn Tryz.prog o_db [.d N0,.d (nD w)] [] (.d (nD w)) []:=by
 have sz:∀x,x≤4294967296→sizeD x≤100000:=fun x hx=>Nat.le_trans (o_jv (show x<10000^3 by omega)) (by omega)
 have bb:∀x y,x≤4294967296→y≤4294967296→x*y<10000^6:=fun x y hx hy=>Nat.lt_of_le_of_lt (Nat.mul_le_mul hx hy) (by decide)
 have szm:∀x y,x≤4294967296→y≤4294967296→sizeD (x*y)≤100000:=fun x y hx hy=>Nat.le_trans (o_jv (bb x y hx hy)) (by omega)
 have sw:sizeD w≤100000:=Nat.le_trans (o_jv (m:=7) (by have:=bb hi B h1 hB;omega)) (by omega)
 refine ⟨nD (0*(B*B)),nD (B*B),nD (hi*B),nD B,nD hi,nD lo,o_jk B (by omega),o_ju B B (sz B hB) (sz B hB),(o_ju 0 (B*B) (sz 0 (by omega)) (szm B B hB hB)).sub (Subs.cons Sub1.nil (Subs.refl _)),o_jk hi (by omega),o_jk lo (by omega),o_ju hi B (sz hi h1) (sz B hB),?_,?_⟩
 ·have:=o_jn (hi*B) lo (szm hi B h1 hB) (sz lo h2)
  rwa [hw] at this
 ·have:=o_jn (0*(B*B)) w (by rw [Nat.zero_mul];exact sz 0 (by omega)) sw
  rwa [show 0*(B*B)+w=w by rw [Nat.zero_mul,Nat.zero_add]] at this
theorem o_jx (w:Nat) (h:w<18446744073709551616):Eqn Tryz.prog o_dk [.d (.sl 1 [.int .u64 w])] [] (.d (nD w)) []:=by
 refine Eqn.pure o_dm Plain.ok ?_
 obtain ⟨hi,hhi⟩:∃x,x=w/4294967296:=⟨_,rfl⟩
 obtain ⟨lo,hlo⟩:∃x,x=w%4294967296:=⟨_,rfl⟩
 have hw:hi*4294967296+lo=w:=by omega
 have e1:(w:Int).tdiv 4294967296=(hi:Int):=by rw [Int.tdiv_eq_ediv_of_nonneg (by omega)];omega
 have e2:(w:Int).tmod 4294967296=(lo:Int):=by rw [Int.tmod_eq_emod_of_nonneg (by omega)];omega
 have e3:IntKind.i64.wrap (hi:Int)=(hi:Int):=w64 (by omega) (by omega)
 have e4:IntKind.i64.wrap (lo:Int)=(lo:Int):=w64 (by omega) (by omega)
 have e5:IntKind.u64.wrap (hi:Int)=(hi:Int):=by rw [IntKind.wrap_u64];omega
 obtain ⟨N0,N1,N2,N3,N4,N5,s0,m0,m1,s1,s2,m2,a1,a2⟩:=o_jw 4294967296 hi lo w (by omega) (by omega) (by omega) hw
 have m9:IntKind.i64.wrap (-1) = -1:=by decide
 have m8:IntKind.i64.wrap (0-1) = -1:=by decide
 clear hhi hlo hw
 generalize nD w=N6 at *
 refine cc (c':=?z218) ?_ ?_
 case refine_1=>cbv<;>exact rfl
 refine A02 s0 m0 ?_;try with_reducible exact tt
 refine AW.rounds 2 ?_
 refine A18 (fs e1 (fs e2 (fs e3 (fs e4 (fs e5 (fs m8 m9)))))) s1 s2 s0 m1 m2 a1 a2 a2 ?_;try with_reducible exact tt
end
section
open Go.RowKit
def txtZ (z:Int):ByteArray:=if z<0 then ⟨#[45]⟩++txt z.natAbs else txt z.natAbs
def txtQ (q:Rat):ByteArray:=if q.den=1 then txtZ q.num else txtZ q.num++⟨#[47]⟩++txt q.den
theorem o_jy (n:Nat):(txt n).size=ndig n:=by
 unfold txt bst
 show ((decN n).map UInt8.ofNat).toArray.size=ndig n
 simp [o_gl]
theorem o_jz {n E:Nat} (h:n<2^E) (h0:0<E):(txt n).size≤E:=by
 rw [o_jy]
 exact o_ge n E (Nat.lt_of_lt_of_le h (Nat.pow_le_pow_left (by decide) E)) h0
theorem o_k0 (n:Nat):n<2^(64*size n):=by
 have h:=o_el (o_f0 n)
 rw [o_ez] at h
 rw [Nat.pow_mul]
 exact h
theorem o_k1 {n:Nat} (h:size n≤1000):(txt n).size≤64000:=by
 obtain ⟨k,hk⟩:∃k,k=64000:=⟨_,rfl⟩
 rw [←hk]
 exact o_jz (Nat.lt_of_lt_of_le (o_k0 n) (Nat.pow_le_pow_right (by decide) (by omega))) (by omega)
theorem o_k2 {z:Int} (h:size z.natAbs≤1000):(txtZ z).size≤64001:=by
 have:=o_k1 h
 unfold txtZ
 split
 ·rw [ByteArray.size_append]
  show 1+_≤_
  omega
 ·omega
theorem o_k3 (z:Int) (h:size z.natAbs≤1000):Eqn Tryz.prog o_8m [.d (wD z)] [] (.d (.str (txtZ z))) []:=by
 refine Eqn.pure o_8o (o_6a _) ?_
 have h1:=o_ic z.natAbs h
 have hs:=o_k1 h
 have e:txtZ z=if z<0 then ⟨#[45]⟩++txt z.natAbs else txt z.natAbs:=rfl
 refine cc (c':=?z219) ?_ ?_
 case refine_1=>cbv<;>exact rfl
 try simp only [wD]
 by_cases hz:z<0
 ·rw [if_pos hz] at e
  rw [e]
  have hd:decide (z<0)=true:=by simp [hz]
  have hl:(⟨#[45]⟩:ByteArray).size=1:=rfl
  rw [hd]
  generalize txt z.natAbs=S at *
  generalize natW z.natAbs=N at *
  refine A11 hl h1 ?_;try with_reducible exact tt
 ·rw [if_neg hz] at e
  rw [e]
  have hd:decide (z<0)=false:=by simp;omega
  rw [hd]
  generalize txt z.natAbs=S at *
  generalize natW z.natAbs=N at *
  refine A01 h1 ?_;try with_reducible exact tt
theorem o_k4 (q:Rat) (h:RS q 1000):Eqn Tryz.prog o_8a [.d (rD q)] [] (.d (.str (txtQ q))) []:=by
 refine Eqn.pure o_8c (o_6a _) ?_
 have hwh:Eqn Tryz.prog o_8d [.d (rD q)] [] (.d (.bool (q.den-1==0))) []:=by
  refine Eqn.pure o_8f Plain.ok ?_
  have hz:=o_fa (q.den-1)
  refine cc (c':=?z220) ?_ ?_
  case refine_1=>cbv<;>exact rfl
  try simp only [rD]
  generalize (q.den-1==0)=b at *
  generalize natW (q.den-1)=N at *
  refine A01 hz ?_;try with_reducible exact tt
 have hpos:=q.den_pos
 have h1:=o_k3 q.num h.1
 have h2:=o_ii q (by have:=h.2;omega)
 have h3:=o_ic q.den h.2
 have s1:=o_k2 h.1
 have s2:=o_k1 h.2
 have e:txtQ q=if q.den=1 then txtZ q.num else txtZ q.num++⟨#[47]⟩++txt q.den:=rfl
 refine cc (c':=?z221) ?_ ?_
 case refine_1=>cbv<;>exact rfl
 try simp only [rD,wD] at *
 by_cases hd:q.den=1
 ·rw [if_pos hd] at e
  rw [e]
  rw [show (q.den-1==0)=true by simp;omega] at hwh
  generalize txtZ q.num=S at *
  generalize natW (q.den-1)=N2 at *
  generalize natW q.num.natAbs=N at *
  generalize decide (q.num<0)=b at *
  refine A02 hwh h1 ?_;try with_reducible exact tt
 ·rw [if_neg hd] at e
  rw [e]
  rw [show (q.den-1==0)=false by simp;omega] at hwh
  generalize txtZ q.num=S at *
  generalize txt q.den=S2 at *
  generalize natW q.den=N3 at *
  generalize natW (q.den-1)=N2 at *
  generalize natW q.num.natAbs=N at *
  generalize decide (q.num<0)=b at *
  have hl:(⟨#[47]⟩:ByteArray).size=1:=rfl
  refine A14 hl hwh h1 h2 h3 ?_;try with_reducible exact tt
end
section
open Go.RowKit
theorem sizeB {x E m:Nat} (h:x<2^E) (hm:E≤13*m):sizeD x≤m:=by
 refine o_jv (Nat.lt_of_lt_of_le h (Nat.le_trans (Nat.pow_le_pow_right (by decide) hm) ?_))
 rw [Nat.pow_mul]
 exact Nat.pow_le_pow_left (by decide) m
def zW (p m:Nat):D:=.agg [nD p,nD m]
theorem o_k5 (p m E:Nat) (hE:E≤200000) (h1:p<2^E) (h2:m<2^E):Eqn Tryz.prog o_e5 [.d (zW p m)] [] (.d (.bool (decide (p<m)))) []:=by
 refine Eqn.pure o_e7 Plain.ok ?_
 have a1:=o_jo p m (sizeB h1 (by omega)) (sizeB h2 (by omega))
 refine cc (c':=?z222) ?_ ?_
 case refine_1=>cbv<;>exact rfl
 try simp only [zW]
 have hz:decide (cmpZ p m<0)=decide (p<m):=by unfold cmpZ;split<;>(try split)<;>simp<;>omega
 rw [←hz]
 generalize cmpZ p m=z at *
 generalize qD3:nD p=D3 at *
 obtain ⟨nD3,lD3,rfl⟩:∃n l,D3=D.sl n l:=⟨_,_,qD3.symm⟩
 clear qD3
 generalize qD4:nD m=D4 at *
 obtain ⟨nD4,lD4,rfl⟩:∃n l,D4=D.sl n l:=⟨_,_,qD4.symm⟩
 clear qD4
 refine A01 a1 ?_;try with_reducible exact tt
theorem o_k6 (p m E:Nat) (hE:E≤200000) (h1:p<2^E) (h2:m<2^E):Eqn Tryz.prog o_dz [.d (zW p m)] [] (.d (nD ((p:Int)-m).natAbs)) []:=by
 refine Eqn.pure o_e1 Plain.ok ?_
 have a1:=o_jo p m (sizeB h1 (by omega)) (sizeB h2 (by omega))
 refine cc (c':=?z223) ?_ ?_
 case refine_1=>cbv<;>exact rfl
 try simp only [zW]
 rcases Nat.lt_or_ge p m with h | h
 ·have a2:=o_jp m p (by omega) (sizeB h2 (by omega)) (sizeB h1 (by omega))
  rw [show ((p:Int)-m).natAbs=m-p by omega]
  have hz:¬0≤cmpZ p m:=by unfold cmpZ;rw [if_pos h];decide
  have hz':cmpZ p m<0:=by omega
  generalize cmpZ p m=z at *
  generalize qD1:nD (m-p)=D1 at *
  obtain ⟨nD1,lD1,rfl⟩:∃n l,D1=D.sl n l:=⟨_,_,qD1.symm⟩
  clear qD1
  generalize qD3:nD p=D3 at *
  obtain ⟨nD3,lD3,rfl⟩:∃n l,D3=D.sl n l:=⟨_,_,qD3.symm⟩
  clear qD3
  generalize qD4:nD m=D4 at *
  obtain ⟨nD4,lD4,rfl⟩:∃n l,D4=D.sl n l:=⟨_,_,qD4.symm⟩
  clear qD4
  refine A12 (fs hz hz') a1 a2 ?_;try with_reducible exact tt
 ·have a2:=o_jp p m h (sizeB h1 (by omega)) (sizeB h2 (by omega))
  rw [show ((p:Int)-m).natAbs=p-m by omega]
  have hz:0≤cmpZ p m:=by unfold cmpZ;rw [if_neg (by omega)];split<;>decide
  have hz':¬cmpZ p m<0:=by omega
  generalize cmpZ p m=z at *
  generalize qD1:nD (p-m)=D1 at *
  obtain ⟨nD1,lD1,rfl⟩:∃n l,D1=D.sl n l:=⟨_,_,qD1.symm⟩
  clear qD1
  generalize qD3:nD p=D3 at *
  obtain ⟨nD3,lD3,rfl⟩:∃n l,D3=D.sl n l:=⟨_,_,qD3.symm⟩
  clear qD3
  generalize qD4:nD m=D4 at *
  obtain ⟨nD4,lD4,rfl⟩:∃n l,D4=D.sl n l:=⟨_,_,qD4.symm⟩
  clear qD4
  refine A12 (fs hz hz') a1 a2 ?_;try with_reducible exact tt
theorem o_k7 (n:Nat) (h:n<9223372036854775808):Eqn Tryz.prog o_e8 [.d (.int .i64 n)] [] (.d (zW n 0)) []:=by
 refine Eqn.pure o_ea Plain.ok ?_
 have h1:=o_jx n (by omega)
 have e1:IntKind.u64.wrap (n:Int)=n:=by rw [IntKind.wrap_u64];omega
 have e2:(0:Int)≤n:=by omega
 have e3:¬(n:Int)<0:=by omega
 refine cc (c':=?z224) ?_ ?_
 case refine_1=>cbv<;>exact rfl
 try simp only [zW]
 rw [o_jg]
 generalize qN:nD n=N at *
 obtain ⟨nN,lN,rfl⟩:∃n l,N=D.sl n l:=⟨_,_,qN.symm⟩
 clear qN
 refine A10 (fs e1 (fs e2 e3)) ?_;try with_reducible exact tt
 refine CallS.pf 1 1 ⟨24,[.d (.int .u64 n)]⟩ [.int .u64 n] (h1) (by first | rfl | (simp [e1,e2,e3];done)) (R1 (fs e1 (fs e2 e3)) ?_);try with_reducible exact tt
 exact Sub1.aggd (Subs.cons (Sub1.refl _) (Subs.cons Sub1.nil (Subs.refl _)))
end
section
open Go.RowKit
@[simp] theorem o_k8:intsV []=some []:=rfl
@[simp] theorem o_k9 (n:Int):intsV [.d (.int .u8 n)]=some [n]:=rfl
theorem o_ka (n:Nat):∀i,i≤sizeD n→dval ((decs n).take i)=n%10000^i:=by
 intro i hi
 have h1:=o_il ((decs n).take i) ((decs n).drop i)
 rw [List.take_append_drop,o_j5,List.length_take,Nat.min_eq_left (show i≤(decs n).length from hi)] at h1
 have h2:=o_j2 (o_j6 n) i
 generalize dval ((decs n).take i)=T at *
 generalize dval ((decs n).drop i)=R at *
 rw [h1,Nat.add_mul_mod_self_left,Nat.mod_eq_of_lt h2]
theorem o_kb (n i:Nat) (hi:i<sizeD n):(decs n).getD i 0=n/10000^i%10000:=by
 have h1:=o_it (decs n) i
 rw [o_ka n (i+1) hi,o_ka n i (by omega),Nat.pow_succ,Nat.mod_mul] at h1
 have hp:0<10000^i:=Nat.pow_pos (by decide)
 have h2:10000^i*(n/10000^i%10000)=10000^i*(decs n).getD i 0:=by omega
 exact (Nat.eq_of_mul_eq_mul_left hp h2).symm
theorem o_kc (n:Nat):n<10000^sizeD n:=by
 have:=o_in (o_j6 n)
 rwa [o_j5] at this
theorem o_kd (n i:Nat) (hi:i<sizeD n):0<n/10000^i:=by
 rcases Nat.eq_zero_or_pos (n/10000^i) with h | h
 ·have hp:0<10000^i:=Nat.pow_pos (by decide)
  have h1:n<10000^i:=(Nat.div_eq_zero_iff_lt hp).1 h
  have h2:=o_ir (ws:=decs n) (m:=i) (o_j7 n) (by rw [o_j5];exact h1)
  unfold sizeD at hi
  omega
 ·exact h
theorem pow4 (i:Nat):10000^i=10^(4*i):=by rw [Nat.pow_mul]
def dN (n i:Nat):List Nat:=if i<sizeD n then padN (4*i) n else decN n
def qD (w k:Nat):Nat:=w/10^k
theorem o_ke (w k:Nat):qD w (k+1)=qD w k/10:=by rw [qD,qD,Nat.div_div_eq_div_mul,Nat.pow_succ]
theorem o_kf (w k:Nat):padN (k+1) w=(48+qD w k%10)::padN k w:=by
 rw [Nat.add_comm,o_g5];rfl
theorem o_kg (c:Nat) (l:List Nat):bst [c]++bst l=bst (c::l):=o_gi [c] l
theorem o_kh (c:Nat):strOf [(c:Int)]=bst [c]:=rfl
set_option maxHeartbeats 2000000 in
theorem o_ki (n:Nat) (hn:sizeD n≤10000):Eqn Tryz.prog o_dt [.d (nD n)] [] (.d (.str (txt n))) []:=by
 refine Eqn.pure o_dv Plain.ok ?_
 refine cc (c':=?z225) ?_ ?_
 case refine_1=>cbv<;>exact rfl
 try simp only [nD]
 by_cases h0:n=0
 ·subst h0
  have e:sizeD 0=0:=rfl
  rw [e,o_i7]
  refine A00 ?_;try with_reducible exact tt
 have hL:0<sizeD n:=by
  rcases Nat.eq_zero_or_pos (sizeD n) with h | h
  ·exact absurd (o_j9.1 (List.eq_nil_of_length_eq_zero h)) h0
  ·exact h
 have hL':¬(sizeD n:Int)=0:=by omega
 have hL2:¬sizeD n=0:=by omega
 have hdl:(dsD (decs n)).length=sizeD n:=o_jd _
 have hget:=fun i h=>o_kb n i h
 have hgd:=fun i=>o_je (decs n) i
 obtain ⟨DS,hDS⟩:∃DS,DS=dsD (decs n):=⟨_,rfl⟩
 rw [←hDS] at hdl hgd ⊢
 refine A10 (fs hL' hL2) ?_;try with_reducible exact tt
 refine AW.loopT (α:=Nat) 0 (fun i=>[(3,.d (.str (bst (dN n i)))),(4,.d (.int .i64 (i:Nat)))]) (fun i=>[]) (fun i=>i≤sizeD n) (fun i=>sizeD n-i) 0 ?_ ?_ (Nat.zero_le _) ?_ ?_ ?_
 ·simp
 ·simp
 ·simp [dN,hL,padN,o_gk]
 ·simp
 intro i hi
 simp
 by_cases hin:i<sizeD n
 ·have hin':(i:Int)<sizeD n:=by omega
  have hge:=o_kd n i hin
  have hgi:=hget i hin
  have hgdi:=hgd i (by unfold sizeD at hin;exact hin)
  rw [hgi] at hgdi
  obtain ⟨w,hw⟩:∃w,w=n/10000^i%10000:=⟨_,rfl⟩
  rw [←hw] at hgdi
  have hw4:w<10000:=by rw [hw];exact Nat.mod_lt _ (by decide)
  have hd0:dN n i=padN (4*i) n:=if_pos hin
  have hlen:(padN (4*i) n).length=4*i:=o_g4 _ _
  obtain ⟨K,hK4,hKc,hKe⟩:∃K,K≤4∧(∀k,k≤K→(k<K↔(k<4∧(i<sizeD n-1∨0<qD w k))))∧padN K w++padN (4*i) n=dN n (i+1):=by
   by_cases hlast:i<sizeD n-1
   ·refine ⟨4,Nat.le_refl _,fun k hk=>by simp [hlast],?_⟩
    rw [dN,if_pos (by omega),show 4*(i+1)=4+4*i by omega,o_g5,←pow4,hw,show (10000:Nat)=10^4 from rfl,o_ga]
   ·have hi1:i+1=sizeD n:=by omega
    have hwv:w=n/10000^i:=by
     rw [hw,Nat.mod_eq_of_lt]
     have:=o_kc n
     rw [←hi1,Nat.pow_succ] at this
     exact Nat.div_lt_of_lt_mul this
    refine ⟨ndig w,o_ge w 4 hw4 (by decide),fun k hk=>?_,?_⟩
    ·have h4:=o_ge w 4 hw4 (by decide)
     constructor
     ·intro hlt
      refine ⟨by omega,.inr ?_⟩
      rcases Nat.eq_zero_or_pos (qD w k) with h | h
      ·have h5:w<10^k:=(Nat.div_eq_zero_iff_lt (Nat.pow_pos (by decide))).1 h
       rcases Nat.eq_zero_or_pos k with rfl | hk0
       ·simp at h5;omega
       ·have:=o_ge w k h5 hk0;omega
      ·exact h
     ·rintro ⟨-,h | h⟩
      ·exact absurd h hlast
      ·have:=o_gf k w h
       have:=o_gc (w/10^k)
       omega
    ·rw [dN,if_neg (by omega),o_gg (4*i) n (by rw [←pow4];exact hge),hwv,←pow4]
     rfl
  rw [hd0]
  obtain ⟨P0,hP0⟩:∃P,P=padN (4*i) n:=⟨_,rfl⟩
  rw [←hP0] at hKe hlen ⊢
  have hgd2:∀h,DS[i]'h = .int .i64 (w:Nat):=fun h=>by
   rw [List.getElem?_eq_getElem h] at hgdi
   exact Option.some.inj hgdi
  have hi48:i<DS.length:=by omega
  clear hDS hgd hget hgi hgdi hge hd0
  refine A10 (fs hin (fs hin' (fs hgd2 hi48))) ?_;try with_reducible exact tt
  refine AW.loopT (α:=Nat) 0 (fun k=>[(3,.d (.str (bst (padN k w++P0)))),(5,.d (.int .i64 (qD w k:Nat))),(6,.d (.int .i64 (k:Nat)))]) (fun k=>[]) (fun k=>k≤K) (fun k=>K-k) 0 ?_ ?_ (Nat.zero_le _) ?_ ?_ ?_
  ·simp
  ·simp
  ·simp [padN,qD]
  ·simp
  intro k hk
  simp
  have xel:IntKind.i64.wrap ((sizeD n:Int)-1)=((sizeD n-1:Nat):Int):=by rw [w64 (by omega) (by omega)];omega
  have hkc:=hKc k hk
  have hqle:qD w k≤w:=Nat.div_le_self _ _
  obtain ⟨q,hq⟩:∃q,q=qD w k:=⟨_,rfl⟩
  rw [←hq] at hkc hqle ⊢
  generalize hL1:sizeD n-1=L1 at *
  by_cases hk4:k<4
  ·have hk4':(k:Int)<4:=by omega
   by_cases hla:i<L1
   ·have hla':(i:Int)<L1:=by omega
    have hkK:k<K:=hkc.2 ⟨hk4,.inl hla⟩
    have xek:IntKind.i64.wrap ((k:Int)+1)=((k+1:Nat):Int):=by rw [w64 (by omega) (by omega)];omega
    obtain ⟨r,hr⟩:∃r,r=q%10:=⟨_,rfl⟩
    have xm10:(q:Int).tmod 10=r:=by rw [hr];exact modN q 10
    have r10:r<10:=by rw [hr];exact Nat.mod_lt _ (by decide)
    obtain ⟨c,hc⟩:∃c,c=48+r:=⟨_,rfl⟩
    have xa48:IntKind.i64.wrap (48+(r:Int))=c:=by rw [w64 (by omega) (by omega)];omega
    have xu8c:IntKind.u8.wrap (c:Int)=c:=by rw [IntKind.wrap_u8];omega
    obtain ⟨q1,hq1⟩:∃q1,q1=q/10:=⟨_,rfl⟩
    have xdq:IntKind.i64.wrap ((q:Int)/10)=q1:=by rw [hq1,w64 (by omega) (by omega)];omega
    have xsO:=o_kh c
    obtain ⟨X,hX⟩:∃X,X=padN k w++P0:=⟨_,rfl⟩
    have hXl:X.length≤50000:=by rw [hX,List.length_append,o_g4,hlen];omega
    have xbc:=o_kg c X
    have hst:padN (k+1) w++P0=c::X:=by rw [o_kf,hX,hc,hr,hq];rfl
    have hq':qD w (k+1)=q1:=by rw [o_ke,←hq,hq1]
    rw [←hX]
    clear hr hc hq1 hX hKc hKe
    refine A10 (fs hk4 (fs hk4' (fs hla (fs hla' (fs xel (fs xek (fs xm10 (fs xa48 (fs xu8c (fs xdq (fs xsO xbc))))))))))) ?_;try with_reducible exact tt
    exact ⟨k+1,by omega,by omega,Sub1.of (by rw [hst]),Sub1.int (by rw [hq']),Sub1.int (by omega)⟩
   ·have hla':¬(i:Int)<L1:=by omega
    by_cases hq0:0<q
    ·have hq0':(0:Int)<q:=by omega
     have hkK:k<K:=hkc.2 ⟨hk4,.inr hq0⟩
     have xek:IntKind.i64.wrap ((k:Int)+1)=((k+1:Nat):Int):=by rw [w64 (by omega) (by omega)];omega
     obtain ⟨r,hr⟩:∃r,r=q%10:=⟨_,rfl⟩
     have xm10:(q:Int).tmod 10=r:=by rw [hr];exact modN q 10
     have r10:r<10:=by rw [hr];exact Nat.mod_lt _ (by decide)
     obtain ⟨c,hc⟩:∃c,c=48+r:=⟨_,rfl⟩
     have xa48:IntKind.i64.wrap (48+(r:Int))=c:=by rw [w64 (by omega) (by omega)];omega
     have xu8c:IntKind.u8.wrap (c:Int)=c:=by rw [IntKind.wrap_u8];omega
     obtain ⟨q1,hq1⟩:∃q1,q1=q/10:=⟨_,rfl⟩
     have xdq:IntKind.i64.wrap ((q:Int)/10)=q1:=by rw [hq1,w64 (by omega) (by omega)];omega
     have xsO:=o_kh c
     obtain ⟨X,hX⟩:∃X,X=padN k w++P0:=⟨_,rfl⟩
     have hXl:X.length≤50000:=by rw [hX,List.length_append,o_g4,hlen];omega
     have xbc:=o_kg c X
     have hst:padN (k+1) w++P0=c::X:=by rw [o_kf,hX,hc,hr,hq];rfl
     have hq':qD w (k+1)=q1:=by rw [o_ke,←hq,hq1]
     rw [←hX]
     clear hr hc hq1 hX hKc hKe
     refine A10 (fs hk4 (fs hk4' (fs hla (fs hla' (fs hq0 (fs hq0' (fs xel (fs xek (fs xm10 (fs xa48 (fs xu8c (fs xdq (fs xsO xbc))))))))))))) ?_;try with_reducible exact tt
     exact ⟨k+1,by omega,by omega,Sub1.of (by rw [hst]),Sub1.int (by rw [hq']),Sub1.int (by omega)⟩
    ·have hq0':¬(0:Int)<q:=by omega
     have hkK:k=K:=by
      rcases Nat.lt_or_ge k K with h | h
      ·have:=(hKc k hk).1 h;omega
      ·omega
     subst hkK
     rw [hKe]
     have xei:IntKind.i64.wrap ((i:Int)+1)=((i+1:Nat):Int):=by rw [w64 (by omega) (by omega)];omega
     refine A10 (fs hk4 (fs hk4' (fs hla (fs hla' (fs hq0 (fs hq0' (fs xel xei))))))) ?_;try with_reducible exact tt
     exact ⟨i+1,by omega,by omega,Sub1.refl _,Sub1.int (by omega)⟩
  ·have hk4':¬(k:Int)<4:=by omega
   have hkK:k=K:=by
    rcases Nat.lt_or_ge k K with h | h
    ·have:=(hKc k hk).1 h;omega
    ·omega
   subst hkK
   rw [hKe]
   have xei:IntKind.i64.wrap ((i:Int)+1)=((i+1:Nat):Int):=by rw [w64 (by omega) (by omega)];omega
   refine A10 (fs hk4 (fs hk4' (fs xel xei))) ?_;try with_reducible exact tt
   exact ⟨i+1,by omega,by omega,Sub1.refl _,Sub1.int (by omega)⟩
 ·have h2:i=sizeD n:=by omega
  subst h2
  have hd:dN n (sizeD n)=decN n:=if_neg (by omega)
  rw [hd]
  refine A00 ?_;try with_reducible exact tt
  exact Sub1.of rfl
end
section
open Go.RowKit
abbrev R4:=V×List (Option Ob)×List Nat×List Nat
def R4.then (r:R4) (K:V→List (Option Ob)→List Nat→List Nat→Prop):Prop:=K r.1 r.2.1 r.2.2.1 r.2.2.2

def o_kj (k:IntKind) (a:Int) (k':IntKind) (b:Int):Option D:=if 0≤b∧b≤k.bits then some (.int k (k.wrap (a*2^b.toNat))) else none
def o_kk (k:IntKind) (a:Int) (k':IntKind) (b:Int):Option D:=if 0≤b∧b≤k.bits then some (.int k (a/2^b.toNat)) else none
def o_kl (k:IntKind) (a:Int) (k':IntKind) (b:Int):Option D:=if k=k' then some (.int k (k.wrap (a+b))) else none
def o_km (k:IntKind) (a:Int) (k':IntKind) (b:Int):Option D:=if k=k' then some (.int k (k.wrap (a-b))) else none
def o_kn (k:IntKind) (a:Int) (k':IntKind) (b:Int):Option D:=if k=k' then some (.int k (k.wrap (a*b))) else none
def o_ko (k:IntKind) (a:Int) (k':IntKind) (b:Int):Option D:=if k=k'∧b≠0 then some (.int k (k.wrap (a.tdiv b))) else none
def o_kp (k:IntKind) (a:Int) (k':IntKind) (b:Int):Option D:=if k=k'∧b≠0 then some (.int k (a.tmod b)) else none
def o_kq (k:IntKind) (a:Int) (k':IntKind) (b:Int):Option D:=if k=k' then some (.int k (bits .and k a b)) else none
def o_kr (k:IntKind) (a:Int) (k':IntKind) (b:Int):Option D:=if k=k' then some (.int k (bits .or k a b)) else none
def o_ks (k:IntKind) (a:Int) (k':IntKind) (b:Int):Option D:=if k=k' then some (.int k (bits .xor k a b)) else none
def o_kt (k:IntKind) (a:Int) (k':IntKind) (b:Int):Option D:=if k=k' then some (.int k (bits .andNot k a b)) else none
def o_ku (k:IntKind) (a:Int) (k':IntKind) (b:Int):Option D:=if k=k' then some (.bool (a==b)) else none
def o_kv (k:IntKind) (a:Int) (k':IntKind) (b:Int):Option D:=if k=k' then some (.bool (a != b)) else none
def o_kw (k:IntKind) (a:Int) (k':IntKind) (b:Int):Option D:=if k=k' then some (.bool (decide (a<b))) else none
def o_kx (k:IntKind) (a:Int) (k':IntKind) (b:Int):Option D:=if k=k' then some (.bool (decide (a≤b))) else none
def o_ky (k:IntKind) (a:Int) (k':IntKind) (b:Int):Option D:=if k=k' then some (.bool (decide (b<a))) else none
def o_kz (k:IntKind) (a:Int) (k':IntKind) (b:Int):Option D:=if k=k' then some (.bool (decide (b≤a))) else none
def evInt (op:BinOp) (k:IntKind) (a:Int) (k':IntKind) (b:Int):Option D :=
 match op with
 | .shl=>o_kj k a k' b
 | .shr=>o_kk k a k' b
 | .add=>o_kl k a k' b
 | .sub=>o_km k a k' b
 | .mul=>o_kn k a k' b
 | .quo=>o_ko k a k' b
 | .rem=>o_kp k a k' b
 | .and=>o_kq k a k' b
 | .or=>o_kr k a k' b
 | .xor=>o_ks k a k' b
 | .andNot=>o_kt k a k' b
 | .eql=>o_ku k a k' b
 | .neq=>o_kv k a k' b
 | .lss=>o_kw k a k' b
 | .leq=>o_kx k a k' b
 | .gtr=>o_ky k a k' b
 | .geq=>o_kz k a k' b
theorem o_l0 {op:BinOp} {k k':IntKind} {a b:Int} {d:D} (h:evInt op k a k' b=some d) {K:D→Prop} (hK:K d):binInt op k a k' b K:=by
 unfold evInt at h
 unfold binInt
 cases op<;>simp only [o_kj,o_kk,o_kl,o_km,o_kn,o_ko,o_kp,o_kq,o_kr,o_ks,o_kt,o_ku,o_kv,o_kw,o_kx,o_ky,o_kz,Option.ite_none_right_eq_some,Option.some.injEq] at h ⊢<;>obtain ⟨h1,h2⟩:=h<;>subst h2<;>exact ⟨h1,hK⟩
def evStr (op:BinOp) (a b:ByteArray):Option D :=
 match op with
 | .add=>if a.size+b.size≤9223372036854775807 then some (.str (a++b)) else none
 | .eql=>some (.bool (decide (a.toList=b.toList)))
 | .neq=>some (.bool (!decide (a.toList=b.toList)))
 | _=>none
theorem o_l1 {op:BinOp} {a b:ByteArray} {d:D} (h:evStr op a b=some d) {K:D→Prop} (hK:K d):binStr op a b K:=by
 have e:(a.toList==b.toList)=decide (a.toList=b.toList):=by
  by_cases h:a.toList=b.toList<;>simp [h]
 unfold evStr at h
 unfold binStr
 cases op<;>simp only [Option.ite_none_right_eq_some,Option.some.injEq,reduceCtorEq] at h ⊢
 ·obtain ⟨h1,h2⟩:=h;subst h2;exact ⟨h1,hK⟩
 ·subst h;rw [e];exact hK
 ·subst h;rw [e];exact hK
def evSlice (s:Nat) (x:V) (a b:Option Int) (mx:Option (Option Int)):Option V :=
 match x,a,b,mx with
 | .d (.sl n l),some a,some b,none=>if 0≤a∧a≤b∧b≤n then some (.d (.sl (b-a).toNat ((l.drop (a.toNat*s)).take ((b-a).toNat*s)))) else none
 | .d (.sl n l),some a,some b,some (some c)=>if 0≤a∧a≤b∧b≤c∧c≤n then (if a=0∧c=0 then some (.d .sl0) else if a=0∧b=c then some (.d (.slf b.toNat (l.take (b.toNat*s)))) else some (.d (.sl (b-a).toNat ((l.drop (a.toNat*s)).take ((b-a).toNat*s))))) else none
 | .own m s' n,some a,some b,none=>if s'=s∧0≤a∧a≤b∧b≤n then some (.row m (a.toNat*s) (b-a).toNat) else none
 | .row m o n,some a,some b,none=>if 0≤a∧a≤b∧b≤n then some (.row m (o+a.toNat*s) (b-a).toNat) else none
 | .d .nilsl,some a,some b,none=>if a=0∧b=0 then some (.d .nilsl) else none
 | _,_,_,_=>none
theorem o_l2 {s:Nat} {x:V} {a b:Option Int} {mx:Option (Option Int)} {v:V} (h:evSlice s x a b mx=some v) {K:V→Prop} (hK:K v):sliceS s x a b mx K:=by
 unfold evSlice at h
 split at h<;>first
  | (cases h;done)
  | (simp only [Option.ite_none_right_eq_some,Option.some.injEq] at h;obtain ⟨h1,h2⟩:=h;subst h2;exact ⟨h1,hK⟩)
  | (split at h
     ·rename_i h1
      refine ⟨h1,?_⟩
      split at h
      ·rename_i h2;rw [if_pos h2];cases h;exact hK
      ·rename_i h2
       rw [if_neg h2]
       split at h
       ·rename_i h3;rw [if_pos h3];cases h;exact hK
       ·rename_i h3;rw [if_neg h3];cases h;exact hK
     ·cases h)

section
variable (T:List V) (H:List (Option Ob)) (cl:FuncId→List V→List (Option Ob)→Option R4) (mt:TypeId→String→Option FuncId)
def o_l3 (c:X) (a:X) (b:X):Option R4:=match c.ev T with
  | .d (.bool t)=>some (if t then a.ev T else b.ev T,H,[],[])
  | _=>none
def o_l4 (e:Nat) (z:List D):Option R4:=some (.p H.length 0,H++[some ⟨e,z.map .d⟩],[],[H.length])
def o_l5 (e:Nat) (x:X):Option R4:=match (x.ev T).cells? with
  | some c=>some (.p H.length 0,H++[some ⟨e,c⟩],[],[H.length])
  | none=>none
def o_l6 (z:List D) (ps:List (Nat×Nat×X)):Option R4:=match fillV (z.map .d) (ps.map fun p=>(p.1,p.2.1,p.2.2.ev T)) with
  | some c=>some (mkAgg c,H,[],[])
  | none=>none
def o_l7 (e:Nat) (s:Nat) (n:Nat) (z:List D) (ps:List (Nat×Nat×X)):Option R4:=match fillV (z.map .d) (ps.map fun p=>(p.1,p.2.1,p.2.2.ev T)) with
  | some c=>some (.own H.length s n,H++[some ⟨e,c⟩],[],[H.length])
  | none=>none
def o_l8 (g:Bool) (s:Nat) (x:X):Option R4:=match x.ev T with
  | .p n off=>match H.getD n none with
   | some ob=>if ob.T<1000000 then (if g then (if off+s≤ob.c.length then some (mkAgg ((ob.c.drop off).take s),H,[n],[]) else none) else (if off<ob.c.length then some (ob.c.getD off .junk,H,[n],[]) else none)) else none
   | none=>none
  | .ia l off=>if g then (if off+s≤l.length then some (.d (.agg ((l.drop off).take s)),H,[],[]) else none) else (if off<l.length then some (.d (l.getD off default),H,[],[]) else none)
  | _=>none
def o_l9 (s:Nat) (x:X) (y:X):Option R4:=match x.ev T,(y.ev T).cells? with
  | .p n off,some c=>match H.getD n none with
   | some ob=>if ob.T<1000000 then (if c.length=s∧off+s≤ob.c.length then some (.junk,H.set n (some ⟨ob.T,setMany ob.c off c⟩),[],[n]) else none) else none
   | none=>none
  | _,_=>none
def o_la (x:X):Option R4:=match x.ev T with
  | .p n o=>some (.p n o,H,[],[])
  | .ia l o=>some (.ia l o,H,[],[])
  | .fn (.func f) c=>some (.fn (.func f) c,H,[],[])
  | .d (.ifc t d)=>some (.d (.ifc t d),H,[],[])
  | _=>none
def o_lb (op:BinOp) (x:X) (y:X):Option R4:=match x.ev T,y.ev T with
  | .d (.int k a),.d (.int k' b)=>(evInt op k a k' b).map fun d=>(.d d,H,[],[])
  | .d (.str a),.d (.str b)=>(evStr op a b).map fun d=>(.d d,H,[],[])
  | _,_=>none
def o_lc (neg:Bool) (x:X) (y:X):Option R4:=match x.ev T,y.ev T with
  | .d (.bool a),.d (.bool b)=>some (.d (.bool (if neg then a != b else a==b)),H,[],[])
  | _,_=>none
def o_ld (op:UnOp) (x:X):Option R4:=match op,x.ev T with
  | .not,.d (.bool b)=>some (.d (.bool (!b)),H,[],[])
  | .neg,.d (.int k n)=>some (.d (.int k (k.wrap (0-n))),H,[],[])
  | .xor,.d (.int k n)=>some (.d (.int k (bits .xor k (if k.signed then -1 else k.max) n)),H,[],[])
  | _,_=>none
def o_le (k:IntKind) (x:X):Option R4:=match x.ev T with
  | .d (.int _ n)=>some (.d (.int k (k.wrap n)),H,[],[])
  | _=>none
def o_lf (x:X):Option R4:=match x.ev T with
  | .d (.str b)=>some (.d (.str b),H,[],[])
  | _=>none
def o_lg (t:Nat) (x:X):Option R4:=match x.ev T with
  | .d x=>some (.d (.ifc t x),H,[],[])
  | _=>none
def o_lh (e:Nat) (s:Nat) (bytes:Nat) (z:List D) (n:X) (c:X):Option R4:=match n.ev T,c.ev T with
  | .d (.int _ a),.d (.int _ b)=>if 0≤a∧a=b∧(bytes:Int)*a≤281474976710656∧a≤281474976710656∧0<s then some (.own H.length s a.toNat,H++[some ⟨e,repl a.toNat z⟩],[],[H.length]) else none
  | _,_=>none
def o_li (s:Nat) (x:X) (lo:Option X) (hi:Option X) (mx:Option X):Option R4:=(evSlice s (x.ev T) (bnd T 0 lo) (hiOf T (x.ev T) mx.isSome hi) (mx.map fun c=>intOf? (c.ev T))).map fun v=>(v,H,[],[])
def o_lj (off:Nat) (x:X):Option R4:=match x.ev T with
  | .p n o=>some (.p n (o+off),H,[],[])
  | .ia l o=>some (.ia l (o+off),H,[],[])
  | _=>none
def o_lk (g:Bool) (off:Nat) (s:Nat) (x:X):Option R4:=match x.ev T with
  | .d (.agg l)=>if g then (if off+s≤l.length then some (.d (.agg ((l.drop off).take s)),H,[],[]) else none) else (if off<l.length then some (.d (l.getD off default),H,[],[]) else none)
  | .agg l=>if g then (if off+s≤l.length then some (mkAgg ((l.drop off).take s),H,[],[]) else none) else (if off<l.length then some (l.getD off .junk,H,[],[]) else none)
  | _=>none
def o_ll (s:Nat) (x:X) (i:X):Option R4:=match x.ev T,i.ev T with
  | .d (.sl n l),.d (.int _ a)=>if 0≤a∧a<n∧a.toNat*s<l.length then some (.ia l (a.toNat*s),H,[],[]) else none
  | .own m s' n,.d (.int _ a)=>if 0≤a∧a<n∧s'=s then some (.p m (a.toNat*s),H,[],[]) else none
  | .row m o n,.d (.int _ a)=>if 0≤a∧a<n then some (.p m (o+a.toNat*s),H,[],[]) else none
  | _,_=>none
def o_lm (x:X) (i:Nat):Option R4:=match x.ev T with
  | .tup l=>if i<l.length then some (l.getD i .junk,H,[],[]) else none
  | _=>none
def o_ln (f:X) (xs:List X):Option R4:=match f.ev T with
  | .fn (.func g) caps=>cl g (xs.map (X.ev T)++caps) H
  | _=>none
def o_lo (r:X) (name:String) (xs:List X):Option R4:=match r.ev T with
  | .d (.ifc t d)=>match mt t name with
   | some g=>cl g (.d d::xs.map (X.ev T)) H
   | none=>none
  | _=>none
def o_lp (x:X):Option R4:=match lenV (x.ev T) with
  | some n=>some (.d (.int .i64 n),H,[],[])
  | none=>none
def o_lq (x:X):Option R4:=match x.ev T with
  | .d (.str s)=>some (.d (.int .i64 s.size),H,[],[])
  | _=>none
def o_lr (mx:Bool) (xs:List X):Option R4:=match minmaxI mx (xs.map (X.ev T)) with
  | some (k,n)=>some (.d (.int k n),H,[],[])
  | none=>none
def o_ls (e:Nat) (s:Nat) (bytes:Nat) (x:X) (y:X):Option R4:=match srcV s H (y.ev T) with
  | some (k,c,rd)=>match x.ev T with
   | .d .nilsl=>if k=0 then (if c.length=0 then some (.d .nilsl,H,rd,[]) else none) else (if 0<s∧0<bytes∧c.length=k*s∧k*bytes≤140737488355328 then some (.own H.length s k,H++[some ⟨e,c⟩],rd,[H.length]) else none)
   | .d .sl0=>if k=0 then (if c.length=0 then some (.d .sl0,H,rd,[]) else none) else (if 0<s∧0<bytes∧c.length=k*s∧k*bytes≤140737488355328 then some (.own H.length s k,H++[some ⟨e,c⟩],rd,[H.length]) else none)
   | .d (.slf q l)=>if 0<k∧0<s∧0<bytes∧l.length=q*s∧c.length=k*s∧(q+k)*bytes≤140737488355328 then some (.own H.length s (q+k),H++[some ⟨e,l.map .d++c⟩],rd,[H.length]) else none
   | .own n s' q=>match H.getD n none with
    | some ob=>if s'=s∧0<s∧0<bytes∧ob.T=e∧ob.c.length=q*s∧c.length=k*s∧(q+k)*bytes≤140737488355328 then some (.own H.length s (q+k),H.set n none++[some ⟨e,ob.c++c⟩],rd,[n,H.length]) else none
    | none=>none
   | _=>none
  | none=>none
def o_lt (x:X):Option R4:=match x.ev T with
  | .d .nilsl=>some (.d (.int .i64 0),H,[],[])
  | _=>none
def o_lu (s:Nat) (x:X) (y:X):Option R4:=match srcV s H (y.ev T),dstV s (x.ev T) with
  | some (k,c,rd),some (n,off,q)=>match H.getD n none with
   | some ob=>if ob.T<1000000 then (if k≤q∧c.length=k*s∧off+k*s≤ob.c.length then some (.d (.int .i64 k),H.set n (some ⟨ob.T,setMany ob.c off c⟩),rd,[n]) else none) else none
   | none=>none
  | _,_=>none
def o_lv (n:Nat) (s:Nat) (x:X) (i:X):Option R4:=match x.ev T,i.ev T with
  | .p m o,.d (.int _ a)=>if 0≤a∧a<n then some (.p m (o+a.toNat*s),H,[],[]) else none
  | .ia l o,.d (.int _ a)=>if 0≤a∧a<n then some (.ia l (o+a.toNat*s),H,[],[]) else none
  | _,_=>none
def o_lw (x:X) (i:X):Option R4:=match x.ev T,i.ev T with
  | .d (.str b),.d (.int _ a)=>if 0≤a∧a.toNat<b.size then some (.d (.int .u8 (b.data.toList.getD a.toNat 0).toNat),H,[],[]) else none
  | _,_=>none
def o_lx (x:X) (lo:Option X) (hi:Option X):Option R4:=match x.ev T with
  | .d (.str s)=>match bnd T 0 lo,bnd T s.size hi with
   | some a,some b=>if 0≤a∧a≤b∧b≤s.size then some (.d (.str (s.extract a.toNat b.toNat)),H,[],[]) else none
   | _,_=>none
  | _=>none
def o_ly (l:List D) (n:Nat) (s:Nat) (i:X):Option R4:=match i.ev T with
  | .d (.int _ a)=>if 0≤a∧a<n then some (.ia l (a.toNat*s),H,[],[]) else none
  | _=>none
def o_lz (x:X):Option R4:=match srcV 1 H (x.ev T) with
  | some (k,c,rd)=>match intsV c with
   | some ns=>if c.length=k then some (.d (.str (strOf ns)),H,rd,[]) else none
   | none=>none
  | none=>none
def o_m0 (n:Nat) (s:Nat) (x:X) (lo:Option X) (hi:Option X):Option R4:=match x.ev T,bnd T 0 lo,bnd T n hi with
  | .p m o,some a,some b=>if 0≤a∧a≤b∧b≤n∧n≤140737488355328 then some (.row m (o+a.toNat*s) (b-a).toNat,H,[],[]) else none
  | _,_,_=>none
def o_m1 (neg:Bool) (x:X):Option R4:=match x.ev T with
  | .d .nilsl=>some (.d (.bool (!neg)),H,[],[])
  | .d (.sl n _)=>if 0<n then some (.d (.bool neg),H,[],[]) else none
  | .own _ _ _=>some (.d (.bool neg),H,[],[])
  | .d .sle=>some (.d (.bool neg),H,[],[])
  | .row _ _ _=>some (.d (.bool neg),H,[],[])
  | _=>none
def o_m2 (neg:Bool) (x:X):Option R4:=match x.ev T with
  | .d .nilifc=>some (.d (.bool (!neg)),H,[],[])
  | .d (.ifc _ _)=>some (.d (.bool neg),H,[],[])
  | _=>none
def o_m3 (neg:Bool) (x:X):Option R4:=match x.ev T with
  | .d .nilp=>some (.d (.bool (!neg)),H,[],[])
  | .p _ _=>some (.d (.bool neg),H,[],[])
  | .ia _ _=>some (.d (.bool neg),H,[],[])
  | _=>none
def o_m4 (neg:Bool) (ks:List Nat) (x:X) (y:X):Option R4:=match x.ev T,y.ev T with
  | .d (.agg l),.d (.agg r)=>match eqKs ks l r with
   | some b=>some (.d (.bool (if neg then !b else b)),H,[],[])
   | none=>none
  | _,_=>none
def o_m5 (e:Nat) (s:Nat) (bytes:Nat) (z:List D) (x:X) (y:X):Option R4:=match x.ev T,y.ev T with
  | .d .nilsl,.d (.int .i64 k)=>if 0<k∧0<s∧0<bytes∧k*bytes≤140737488355328 then some (.own H.length s k.toNat,H++[some ⟨e,repl k.toNat z⟩],[],[H.length]) else none
  | _,_=>none
def o_m6 (s:Nat) (x:X) (hi:X):Option R4:=match x.ev T,hi.ev T with
  | .own n s' q,.d (.int _ b)=>match H.getD n none with
   | some ob=>if s'=s∧0≤b∧b≤q∧ob.T<1000000 then some (.own n s b.toNat,H.set n (some ⟨ob.T,ob.c.take (b.toNat*s)⟩),[],[n]) else none
   | none=>none
  | _,_=>none
def o_m7 (n:Nat) (s:Nat) (q:Bool) (x:X) (i:X):Option R4:=match x.ev T,i.ev T with
  | .d (.agg l),.d (.int _ a)=>if q then (if 0≤a∧a<n∧a.toNat*s+s≤l.length then some (.d (.agg ((l.drop (a.toNat*s)).take s)),H,[],[]) else none) else (if 0≤a∧a<n∧a.toNat*s<l.length then some (.d (l.getD (a.toNat*s) default),H,[],[]) else none)
  | .agg l,.d (.int _ a)=>if q then (if 0≤a∧a<n∧a.toNat*s+s≤l.length then some (mkAgg ((l.drop (a.toNat*s)).take s),H,[],[]) else none) else (if 0≤a∧a<n∧a.toNat*s<l.length then some (l.getD (a.toNat*s) .junk,H,[],[]) else none)
  | _,_=>none
def o_m8 (t:Nat):Option R4:=some (.p H.length 0,H++[some ⟨t,[.junk]⟩],[],[H.length])
def o_m9 (t:Nat):Option R4:=some (.mp H.length,H++[some ⟨t,[]⟩],[],[H.length])
def o_ma  : Option R4:=some (.mp H.length,H++[some ⟨1000002,[]⟩],[],[H.length])
def o_mb (b:Nat) (x:X):Option R4:=match x.ev T with
  | .d (.int _ n)=>if 0≤n∧(b:Int)*n≤281474976710544∧n≤9223372036854775807 then some (.ch H.length,H++[some ⟨1000001,[.d (.int .i64 n)]⟩],[],[H.length]) else none
  | _=>none
def o_mc (x:X) (k:X):Option R4:=match x.ev T,k.ev T with
  | .mp n,.d (.str s)=>match H.getD n none with
   | some ob=>if ob.T=1000002 then (match V.toDs ob.c with
    | some ds=>(match sfind s ds with
     | some (some i)=>some (.tup [.d (sgetD ds i),.d (.bool true)],H,[n],[])
     | some none=>some (.tup [.d (.int .i64 0),.d (.bool false)],H,[n],[])
     | none=>none)
    | none=>none) else none
   | none=>none
  | _,_=>none
def o_md (x:X) (k:X) (v:X):Option R4:=match x.ev T,k.ev T,v.ev T with
  | .mp n,.d (.str s),.d (.int .i64 j)=>match H.getD n none with
   | some ob=>if ob.T=1000002 then (match V.toDs ob.c with
    | some ds=>(match sfind s ds with
     | some none=>if ds.length%2=0 then some (.junk,H.set n (some ⟨1000002,(ds++[D.str s,D.int .i64 j]).map V.d⟩),[],[n]) else none
     | _=>none)
    | none=>none) else none
   | none=>none
  | _,_,_=>none
def o_me (z:List V) (ps:List (Nat×Nat×X)):Option R4:=match fillV z (ps.map fun p=>(p.1,p.2.1,p.2.2.ev T)) with
  | some c=>some (mkAgg c,H,[],[])
  | none=>none
def o_mf (t:Nat) (ks:List Nat) (vw:Nat) (g:Bool) (z:List D) (x:X) (k:X):Option R4:=match x.ev T,k.ev T with
  | .mp n,.d (.agg kl)=>match H.getD n none with
   | some ob=>if ob.T=t∧kl.length=ks.length then (match V.toDs ob.c with
    | some ds=>match mlook ks vw g z kl ds with
     | some y=>some (.d y,H,[n],[])
     | none=>none
    | none=>none) else none
   | none=>none
  | _,_=>none
def o_mg (t:Nat) (ks:List Nat) (vw:Nat) (g:Bool) (x:X) (k:X) (v:X):Option R4:=match x.ev T,k.ev T,v.ev T with
  | .mp n,.d (.agg kl),.d y=>match H.getD n none with
   | some ob=>if ob.T=t∧kl.length=ks.length∧y.isAgg=g then (match V.toDs ob.c with
    | some ds=>if y.cells.length=vw∧ds.length%(ks.length+vw)=0 then (match mset ks vw kl y.cells ds with
     | some ds'=>some (.junk,H.set n (some ⟨t,ds'.map .d⟩),[],[n])
     | none=>none) else none
    | none=>none) else none
   | none=>none
  | _,_,_=>none
def o_mh (t:Nat) (ks:List Nat) (vw:Nat) (g:Bool) (z:List D) (x:X) (k:X):Option R4:=match x.ev T,k.ev T with
  | .mp n,.d (.agg kl)=>match H.getD n none with
   | some ob=>if ob.T=t∧kl.length=ks.length then (match V.toDs ob.c with
    | some ds=>if ds.length%(ks.length+vw)=0 then (match mentD ks vw g z kl ds with
     | some (y,j,ds')=>some (.tup [.d y,.d (.int .i64 j)],H.set n (some ⟨t,ds'.map .d⟩),[],[n])
     | none=>none) else none
    | none=>none) else none
   | none=>none
  | _,_=>none
def o_mi (t:Nat) (ks:List Nat) (vw:Nat) (g:Bool) (x:X) (s:X) (v:X):Option R4:=match x.ev T,s.ev T,v.ev T with
  | .mp n,.d (.int .i64 j),.d y=>match H.getD n none with
   | some ob=>if ob.T=t∧y.isAgg=g then (match V.toDs ob.c with
    | some ds=>if y.cells.length=vw∧0≤j∧j.toNat<ds.length/(ks.length+vw) then some (.junk,H.set n (some ⟨t,(estoD ks.length vw j.toNat y.cells ds).map .d⟩),[],[n]) else none
    | none=>none) else none
   | none=>none
  | _,_,_=>none
def o_mj (t:Nat) (w:Nat) (x:X):Option R4:=match x.ev T with
  | .mp n=>match H.getD n none with
   | some ob=>if ob.T=t then some (.p H.length 0,H++[some ⟨1000000,[.mp n,.d (.int .i64 (ob.c.length/w:Nat))]⟩],[n],[H.length]) else none
   | none=>none
  | _=>none
def o_mk (x:X):Option R4:=match x.ev T with
  | .p n 0=>match H.getD n none with
   | some ob=>match iterV ob with
    | some (k,N,l)=>match H.getD k none with
     | some obk=>if 1000000<obk.T∧0<tagK obk.T∧obk.c.length/(tagK obk.T+tagV obk.T)=N then (match (List.range N).filter (fun i=>!l.contains i) with
      | []=>some (.tup [.d (.bool false)],H,[k,n],[])
      | [i]=>some (.tup [.d (.bool true),.junk,.junk],H.set n (some ⟨1000000,ob.c++[.d (.int .i64 i)]⟩),[k],[n])
      | _=>none) else none
     | none=>none
    | none=>none
   | none=>none
  | _=>none
def o_ml (x:X):Option R4:=match x.ev T with
  | .p n 0=>match H.getD n none with
   | some ob=>match iterV ob with
    | some (k,N,l)=>match H.getD k none with
     | some obk=>match V.toDs obk.c,l.getLast? with
      | some ds,some i=>if 1000000<obk.T∧0<tagK obk.T∧ds.length/(tagK obk.T+tagV obk.T)=N∧i<N∧(tagG obk.T=true∨tagV obk.T=1) then some (.tup [.d (.agg ((ds.drop (i*(tagK obk.T+tagV obk.T))).take (tagK obk.T))),.d (glD (tagG obk.T) ((ds.drop (i*(tagK obk.T+tagV obk.T)+tagK obk.T)).take (tagV obk.T)))],H,[k,n],[]) else none
      | _,_=>none
     | none=>none
    | none=>none
   | none=>none
  | _=>none
def A.ev:A→Option R4
 | .mv x=>some (x.ev T,H,[],[])
 | .pick c a b=>o_l3 T H c a b
 | .new e z=>o_l4 H e z
 | .box e x=>o_l5 T H e x
 | .build z ps=>o_l6 T H z ps
 | .bsl e s n z ps=>o_l7 T H e s n z ps
 | .load g s x=>o_l8 T H g s x
 | .store s x y=>o_l9 T H s x y
 | .chk x=>o_la T H x
 | .bin op x y=>o_lb T H op x y
 | .beq neg x y=>o_lc T H neg x y
 | .un op x=>o_ld T H op x
 | .conv k x=>o_le T H k x
 | .cstr x=>o_lf T H x
 | .ifc t x=>o_lg T H t x
 | .mkf f cs=>some (.fn f (cs.map (X.ev T)),H,[],[])
 | .mksl e s bytes z n c=>o_lh T H e s bytes z n c
 | .slice s x lo hi mx=>o_li T H s x lo hi mx
 | .fa off x=>o_lj T H off x
 | .fld g off s x=>o_lk T H g off s x
 | .ix s x i=>o_ll T H s x i
 | .ext x i=>o_lm T H x i
 | .call f xs=>cl f (xs.map (X.ev T)) H
 | .callv f xs=>o_ln T H cl f xs
 | .inv r name xs=>o_lo T H cl mt r name xs
 | .len x=>o_lp T H x
 | .lens x=>o_lq T H x
 | .mm mx xs=>o_lr T H mx xs
 | .app e s bytes x y=>o_ls T H e s bytes x y
 | .capn x=>o_lt T H x
 | .cpy s x y=>o_lu T H s x y
 | .bsl0=>some (.d .sl0,H,[],[])
 | .ixa n s x i=>o_lv T H n s x i
 | .gstr x i=>o_lw T H x i
 | .sstr x lo hi=>o_lx T H x lo hi
 | .gix l n s i=>o_ly T H l n s i
 | .bstr x=>o_lz T H x
 | .sla n s x lo hi=>o_m0 T H n s x lo hi
 | .snl neg x=>o_m1 T H neg x
 | .inl neg x=>o_m2 T H neg x
 | .pnl neg x=>o_m3 T H neg x
 | .aeq neg ks x y=>o_m4 T H neg ks x y
 | .appz e s bytes z x y=>o_m5 T H e s bytes z x y
 | .cut s x hi=>o_m6 T H s x hi
 | .ixv n s q x i=>o_m7 T H n s q x i
 | .newj t=>o_m8 H t
 | .mkm t=>o_m9 H t
 | .mkS=>o_ma H
 | .mkc b x=>o_mb T H b x
 | .mgS x k=>o_mc T H x k
 | .mpS x k v=>o_md T H x k v
 | .bldj z ps=>o_me T H z ps
 | .mget t ks vw g z x k=>o_mf T H t ks vw g z x k
 | .mput t ks vw g x k v=>o_mg T H t ks vw g x k v
 | .ment t ks vw g z x k=>o_mh T H t ks vw g z x k
 | .esto t ks vw g x s v=>o_mi T H t ks vw g x s v
 | .mrng t w x=>o_mj T H t w x
 | .mnx x=>o_mk T H x
 | .mety x=>o_ml T H x
 | .tou _=>none
 | .fru _ _=>none
 | .mkb _ _=>none
 | .peq _ _ _=>none
 | .apps _ _ _ _ _=>none
 | .sdat _=>none
 | .ustr _ _ _=>none
 | .bad=>none
end
set_option maxHeartbeats 4000000 in
theorem A.ev_ok {P:Program} {T:List V} {H:List (Option Ob)} {cl:FuncId→List V→List (Option Ob)→Option R4} {mt:TypeId→String→Option FuncId}
  (hcl:∀f args H r,cl f args H=some r→∀K,R4.then r K→CallS P f args H K) (hmt:∀t name g,mt t name=some g→MethOK P t name g) (a:A) (r:R4) (h:A.ev T H cl mt a=some r) (K:V→List (Option Ob)→List Nat→List Nat→Prop) (hK:R4.then r K):A.step P T H K a:=by
 unfold R4.then at hK
 cases a
 case mnx x =>
  simp only [A.ev,o_l3,o_l4,o_l5,o_l6,o_l7,o_l8,o_l9,o_la,o_lb,o_lc,o_ld,o_le,o_lf,o_lg,o_lh,o_li,o_lj,o_lk,o_ll,o_lm,o_ln,o_lo,o_lp,o_lq,o_lr,o_ls,o_lt,o_lu,o_lv,o_lw,o_lx,o_ly,o_lz,o_m0,o_m1,o_m2,o_m3,o_m4,o_m5,o_m6,o_m7,o_m8,o_m9,o_ma,o_mb,o_mc,o_md,o_me,o_mf,o_mg,o_mh,o_mi,o_mj,o_mk,o_ml] at h
  simp only [A.step]
  repeat' (split at h)
  all_goals first
   | (cases h;done)
   | skip
  all_goals first
   | (rename_i hc x0 i hf
      cases h
      have hm:∀z,z∈[i]→_:=fun z hz=>List.mem_filter.1 (hf.symm▸hz)
      have hs:∀z,_→z∈[i]:=fun z hz=>hf▸List.mem_filter.2 hz
      simp only [*]
      refine ⟨by first | trivial | exact hc.1,by first | trivial | exact hc.2 | exact ⟨trivial,trivial⟩ | exact ⟨trivial,hc.2.2⟩,fun j hj hl=>?_,fun hall=>?_⟩
      ·have:=hs j ⟨List.mem_range.2 (by first | exact hj | exact hc.2.2▸hj),by simpa using hl⟩
       rw [List.mem_singleton] at this;subst this;first | exact hK | trivial
      ·have h2:=hm i (List.mem_singleton.2 rfl)
       exact absurd (hall i (by first | exact List.mem_range.1 h2.1 | exact hc.2.2▸List.mem_range.1 h2.1)) (by simpa using h2.2))
   | (rename_i hc x0 hf
      cases h
      have hs:∀z,_→z∈([]:List Nat):=fun z hz=>hf▸List.mem_filter.2 hz
      simp only [*]
      refine ⟨by first | trivial | exact hc.1,by first | trivial | exact hc.2 | exact ⟨trivial,trivial⟩ | exact ⟨trivial,hc.2.2⟩,fun j hj hl=>?_,fun hall=>?_⟩
      ·exact absurd (hs j ⟨List.mem_range.2 (by first | exact hj | exact hc.2.2▸hj),by simpa using hl⟩) (by simp)
      ·first | exact hK | trivial)
 all_goals simp only [A.ev,o_l3,o_l4,o_l5,o_l6,o_l7,o_l8,o_l9,o_la,o_lb,o_lc,o_ld,o_le,o_lf,o_lg,o_lh,o_li,o_lj,o_lk,o_ll,o_lm,o_ln,o_lo,o_lp,o_lq,o_lr,o_ls,o_lt,o_lu,o_lv,o_lw,o_lx,o_ly,o_lz,o_m0,o_m1,o_m2,o_m3,o_m4,o_m5,o_m6,o_m7,o_m8,o_m9,o_ma,o_mb,o_mc,o_md,o_me,o_mf,o_mg,o_mh,o_mi,o_mj,o_mk,o_ml] at h
 all_goals simp only [A.step]
 all_goals first
  | (cases h;done)
  | (cases h;exact hK)
  | exact hcl _ _ _ _ h K hK
  | skip
 all_goals (repeat' (split at h))<;>first
  | (cases h;done)
  | (cases h;simp_all [need];done)
  | exact hcl _ _ _ _ h K hK
  | (simp_all [need];done)
  | (simp_all;exact hcl _ _ _ _ h K hK)
  | (simp_all;exact ⟨_,hmt _ _ _ (by assumption),hcl _ _ _ _ h K hK⟩)
  | (obtain ⟨d,hd,rfl⟩:=Option.map_eq_some_iff.1 h;exact o_l2 hd hK)
  | (obtain ⟨d,hd,rfl⟩:=Option.map_eq_some_iff.1 h;simp only [*];exact o_l0 hd hK)
  | (obtain ⟨d,hd,rfl⟩:=Option.map_eq_some_iff.1 h;simp only [*];exact o_l1 hd hK)
  | (rename_i hx hy hc;cases h;rw [hx,hy];exact ⟨hc,hK⟩)
  | (simp only [*];exact hcl _ _ _ _ h K hK)
  | (simp only [*];exact ⟨_,hmt _ _ _ (by assumption),hcl _ _ _ _ h K hK⟩)

def bindL {α β:Type}:List α→(α→Option (List β))→Option (List β)
 | [],_=>some []
 | a::l,f=>match f a with
  | none=>none
  | some x=>match bindL l f with
   | none=>none
   | some y=>some (x++y)
theorem o_mm {α β:Type} {f:α→Option (List β)}:∀{l:List α} {ys:List β},bindL l f=some ys→∀a∈l,∃x,f a=some x∧∀b∈x,b∈ys
 | [],ys,h,a,ha=>absurd ha (by simp)
 | a0::l,ys,h,a,ha=>by
  unfold bindL at h
  split at h
  ·cases h
  ·rename_i x hx
   split at h
   ·cases h
   ·rename_i y hy
    cases h
    rcases List.mem_cons.1 ha with rfl | ha
    ·exact ⟨x,hx,fun b hb=>List.mem_append.2 (.inl hb)⟩
    ·obtain ⟨x',h1,h2⟩:=o_mm hy a ha
     exact ⟨x',h1,fun b hb=>List.mem_append.2 (.inr (h2 b hb))⟩
def A.evs (T:List V) (H:List (Option Ob)) (cl:FuncId→List V→List (Option Ob)→Option R4) (mt:TypeId→String→Option FuncId):A→Option (List R4)
 | .mnx x=>match x.ev T with
  | .p n 0=>match H.getD n none with
   | some ob=>match iterV ob with
    | some (k,N,l)=>match H.getD k none with
     | some obk=>if 1000000<obk.T∧0<tagK obk.T∧obk.c.length/(tagK obk.T+tagV obk.T)=N then (match (List.range N).filter (fun i=>!l.contains i) with
      | []=>some [(.tup [.d (.bool false)],H,[k,n],[])]
      | i::is=>some ((i::is).map fun (i:Nat)=>(.tup [.d (.bool true),.junk,.junk],H.set n (some ⟨1000000,ob.c++[.d (.int .i64 i)]⟩),[k],[n]))) else none
     | none=>none
    | none=>none
   | none=>none
  | _=>none
 | a=>(A.ev T H cl mt a).map fun r=>[r]
set_option maxHeartbeats 4000000 in
theorem A.evs_ok {P:Program} {T:List V} {H:List (Option Ob)} {cl:FuncId→List V→List (Option Ob)→Option R4} {mt:TypeId→String→Option FuncId}
  (hcl:∀f args H r,cl f args H=some r→∀K,R4.then r K→CallS P f args H K) (hmt:∀t name g,mt t name=some g→MethOK P t name g) (a:A) (rs:List R4) (h:A.evs T H cl mt a=some rs) (K:V→List (Option Ob)→List Nat→List Nat→Prop) (hK:∀r∈rs,R4.then r K):A.step P T H K a:=by
 cases a
 case mnx x =>
  simp only [A.evs] at h
  simp only [A.step]
  repeat' (split at h)
  all_goals first
   | (cases h;done)
   | skip
  all_goals first
   | (rename_i hc x0 hf
      cases h
      have hK:=hK _ (List.mem_singleton.2 rfl)
      unfold R4.then at hK
      have hs:∀z,_→z∈([]:List Nat):=fun z hz=>hf▸List.mem_filter.2 hz
      simp only [*]
      refine ⟨by first | trivial | exact hc.1,by first | trivial | exact hc.2 | exact ⟨trivial,trivial⟩ | exact ⟨trivial,hc.2.2⟩,fun j hj hl=>?_,fun hall=>?_⟩
      ·exact absurd (hs j ⟨List.mem_range.2 (by first | exact hj | exact hc.2.2▸hj),by simpa using hl⟩) (by simp)
      ·first | exact hK | trivial)
   | (rename_i hc x0 i is hf
      cases h
      have hm:∀z,z∈i::is→_:=fun z hz=>List.mem_filter.1 (hf.symm▸hz)
      have hs:∀z,_→z∈i::is:=fun z hz=>hf▸List.mem_filter.2 hz
      simp only [*]
      refine ⟨by first | trivial | exact hc.1,by first | trivial | exact hc.2 | exact ⟨trivial,trivial⟩ | exact ⟨trivial,hc.2.2⟩,fun j hj hl=>?_,fun hall=>?_⟩
      ·have h2:=hs j ⟨List.mem_range.2 (by first | exact hj | exact hc.2.2▸hj),by simpa using hl⟩
       have h3:=hK _ (List.mem_map.2 ⟨j,h2,rfl⟩)
       unfold R4.then at h3
       first | exact h3 | trivial
      ·have h2:=hm i (List.mem_cons_self ..)
       exact absurd (hall i (by first | exact List.mem_range.1 h2.1 | exact hc.2.2▸List.mem_range.1 h2.1)) (by simpa using h2.2))
 all_goals
  simp only [A.evs,Option.map_eq_some_iff] at h
  obtain ⟨r,h1,h2⟩:=h
  cases h2
  exact A.ev_ok hcl hmt _ r h1 K (hK r (List.mem_singleton.2 rfl))

mutual
def D.beq:D→D→Bool
 | .int k n,.int k' n'=>decide (k=k')&&decide (n=n')
 | .bool a,.bool b=>decide (a=b)
 | .str a,.str b=>decide (a=b)
 | .agg l,.agg r=>D.beqs l r
 | .sl n l,.sl m r=>Nat.beq n m&&D.beqs l r
 | .slf n l,.slf m r=>Nat.beq n m&&D.beqs l r
 | .nilsl,.nilsl | .sl0,.sl0 | .sle,.sle | .nilifc,.nilifc | .nilp,.nilp | .nilfn,.nilfn=>true
 | .ifc t d,.ifc u e=>Nat.beq t u&&D.beq d e
 | .ptr l o,.ptr r p=>Nat.beq o p&&D.beqs l r
 | _,_=>false
def D.beqs:List D→List D→Bool
 | [],[]=>true
 | a::l,b::r=>D.beq a b&&D.beqs l r
 | _,_=>false
end
mutual
theorem D.beq_ok:∀(a b:D),D.beq a b=true→a=b
 | .int _ _,b,h=>by cases b<;>simp_all [D.beq]
 | .bool _,b,h=>by cases b<;>simp_all [D.beq]
 | .str _,b,h=>by cases b<;>simp_all [D.beq]
 | .agg l,b,h=>by
  cases b with
  | agg r=>rw [D.beqs_ok l r (by simpa only [D.beq] using h)]
  | _=>simp [D.beq] at h
 | .sl n l,b,h=>by
  cases b with
  | sl m r=>simp only [D.beq,Bool.and_eq_true] at h;rw [D.beqs_ok l r h.2,Nat.eq_of_beq_eq_true h.1]
  | _=>simp [D.beq] at h
 | .slf n l,b,h=>by
  cases b with
  | slf m r=>simp only [D.beq,Bool.and_eq_true] at h;rw [D.beqs_ok l r h.2,Nat.eq_of_beq_eq_true h.1]
  | _=>simp [D.beq] at h
 | .nilsl,b,h=>by cases b<;>simp_all [D.beq]
 | .sl0,b,h=>by cases b<;>simp_all [D.beq]
 | .sle,b,h=>by cases b<;>simp_all [D.beq]
 | .nilifc,b,h=>by cases b<;>simp_all [D.beq]
 | .nilp,b,h=>by cases b<;>simp_all [D.beq]
 | .nilfn,b,h=>by cases b<;>simp_all [D.beq]
 | .ifc t d,b,h=>by
  cases b with
  | ifc u e=>simp only [D.beq,Bool.and_eq_true] at h;rw [D.beq_ok d e h.2,Nat.eq_of_beq_eq_true h.1]
  | _=>simp [D.beq] at h
 | .ptr l o,b,h=>by
  cases b with
  | ptr r p=>simp only [D.beq,Bool.and_eq_true] at h;rw [D.beqs_ok l r h.2,Nat.eq_of_beq_eq_true h.1]
  | _=>simp [D.beq] at h
theorem D.beqs_ok:∀(l r:List D),D.beqs l r=true→l=r
 | [],r,h=>by cases r<;>simp_all [D.beqs]
 | a::l,r,h=>by
  cases r with
  | nil=>simp [D.beqs] at h
  | cons b r=>simp only [D.beqs,Bool.and_eq_true] at h;rw [D.beq_ok a b h.1,D.beqs_ok l r h.2]
end
mutual
def V.beq:V→V→Bool
 | .d a,.d b=>D.beq a b
 | .agg l,.agg r=>V.beqs l r
 | .tup l,.tup r=>V.beqs l r
 | .p n o,.p m q=>Nat.beq n m&&Nat.beq o q
 | .row n o k,.row m q j=>Nat.beq n m&&Nat.beq o q&&Nat.beq k j
 | .own n o k,.own m q j=>Nat.beq n m&&Nat.beq o q&&Nat.beq k j
 | .mp n,.mp m=>Nat.beq n m
 | .ch n,.ch m=>Nat.beq n m
 | .junk,.junk=>true
 | _,_=>false
def V.beqs:List V→List V→Bool
 | [],[]=>true
 | a::l,b::r=>V.beq a b&&V.beqs l r
 | _,_=>false
end
mutual
theorem V.beq_ok:∀(a b:V),V.beq a b=true→a=b
 | .d x,b,h=>by
  cases b with
  | d y=>rw [D.beq_ok x y (by simpa only [V.beq] using h)]
  | _=>simp [V.beq] at h
 | .agg l,b,h=>by
  cases b with
  | agg r=>rw [V.beqs_ok l r (by simpa only [V.beq] using h)]
  | _=>simp [V.beq] at h
 | .tup l,b,h=>by
  cases b with
  | tup r=>rw [V.beqs_ok l r (by simpa only [V.beq] using h)]
  | _=>simp [V.beq] at h
 | .p _ _,b,h=>by cases b<;>simp_all [V.beq]
 | .row _ _ _,b,h=>by cases b<;>simp_all [V.beq]
 | .own _ _ _,b,h=>by cases b<;>simp_all [V.beq]
 | .mp _,b,h=>by cases b<;>simp_all [V.beq]
 | .ch _,b,h=>by cases b<;>simp_all [V.beq]
 | .fn _ _,b,h=>by cases b<;>simp [V.beq] at h
 | .fb _ _,b,h=>by cases b<;>simp [V.beq] at h
 | .junk,b,h=>by cases b<;>simp_all [V.beq]
theorem V.beqs_ok:∀(l r:List V),V.beqs l r=true→l=r
 | [],r,h=>by cases r<;>simp_all [V.beqs]
 | a::l,r,h=>by
  cases r with
  | nil=>simp [V.beqs] at h
  | cons b r=>simp only [V.beqs,Bool.and_eq_true] at h;rw [V.beq_ok a b h.1,V.beqs_ok l r h.2]
end
def obsB:List Ob→List Ob→Bool
 | [],[]=>true
 | a::l,b::r=>Nat.beq a.T b.T&&V.beqs a.c b.c&&obsB l r
 | _,_=>false
theorem o_mn:∀{l r:List Ob},obsB l r=true→l=r
 | [],[],_=>rfl
 | ⟨t,c⟩::l,⟨u,d⟩::r,h=>by
  simp only [obsB,Bool.and_eq_true] at h
  rw [Nat.eq_of_beq_eq_true h.1.1,V.beqs_ok _ _ h.1.2,o_mn h.2]
 | [],_::_,h=>by simp [obsB] at h
 | _::_,[],h=>by simp [obsB] at h

mutual
def V.names:V→List Nat
 | .d _ | .junk=>[]
 | .agg l | .tup l | .fn _ l | .fb _ l=>V.namess l
 | .p n _ | .row n _ _ | .own n _ _ | .mp n | .ch n=>[n]
def V.namess:List V→List Nat
 | []=>[]
 | x::l=>x.names++V.namess l
end

mutual
def V.strd (n:Nat):V→Nat
 | .own k s _=>if k=n then s else 0
 | .agg l | .tup l | .fn _ l | .fb _ l=>V.strds n l
 | _=>0
def V.strds (n:Nat):List V→Nat
 | []=>0
 | x::l=>match x.strd n with
  | 0=>V.strds n l
  | s=>s
end
def strdH (n:Nat):List (Option Ob)→Nat
 | []=>1
 | some ob::l=>(match V.strds n ob.c with
  | 0=>strdH n l
  | s=>s)
 | none::l=>strdH n l
def fz1 (n:Nat) (r:List V×List (Option Ob)):List V×List (Option Ob):=match r.2.getD n none with
 | some ob=>match Nat.blt ob.T 1000000,V.toDs ob.c with
  | true,some ds =>
   let s:=match V.strds n r.1 with
    | 0=>strdH n r.2
    | s=>s
   (r.1.map (V.frz n s ds),frzH n s ds r.2)
  | _,_=>r
 | none=>r
def fzAll:List Nat→List V×List (Option Ob)→List V×List (Option Ob)
 | [],r=>r
 | n::l,r=>fzAll l (fz1 n r)
theorem o_mo {P:Program} {L:Nat} {c:C} {Q:Exit→List V→List (Option Ob)→Prop} (n:Nat) (r:List V×List (Option Ob)) (h:AW P L c Q (fz1 n r).1 (fz1 n r).2):AW P L c Q r.1 r.2:=by
 unfold fz1 at h
 split at h
 ·rename_i ob hn
  split at h
  ·rename_i ds hT hd
   exact AW.freeze n _ ob ds hn (V.toDs_eq hd) h hT
  ·exact h
 ·exact h
theorem o_mp {P:Program} {L:Nat} {c:C} {Q:Exit→List V→List (Option Ob)→Prop}:∀(l:List Nat) (r:List V×List (Option Ob)),AW P L c Q (fzAll l r).1 (fzAll l r).2→AW P L c Q r.1 r.2
 | [],r,h=>h
 | n::l,r,h=>o_mo n r (o_mp l _ h)
def V.norm1:V→V
 | .agg l=>mkAgg l
 | x=>x
def V.norm:V→V
 | .agg l=>mkAgg l
 | .tup l=>.tup (l.map V.norm1)
 | x=>x
theorem V.norm1_sub (x:V):Sub1 x x.norm1:=fun m v h=>by
 cases x with
 | agg l =>
  unfold V.rep at h
  obtain ⟨vs,rfl,h1,h2⟩:=h
  exact o_3 h2 h1
 | _=>exact h
theorem V.norms_sub:∀(l:List V) (m:Mem) (vs:List Value),V.reps m l vs→V.reps m (l.map V.norm1) vs
 | [],m,vs,h=>h
 | x::l,m,vs,h=>by
  unfold V.reps at h
  obtain ⟨v,r,rfl,h1,h2⟩:=h
  rw [List.map_cons]
  unfold V.reps
  exact ⟨v,r,rfl,V.norm1_sub x m v h1,V.norms_sub l m r h2⟩
theorem V.norm_sub (x:V):Sub1 x x.norm:=fun m v h=>by
 cases x with
 | agg l=>exact V.norm1_sub _ m v h
 | tup l =>
  unfold V.norm
  unfold V.rep at h ⊢
  obtain ⟨vs,h1,h2⟩:=h
  exact ⟨vs,h1,V.norms_sub l m vs h2⟩
 | _=>exact h

def forceN {R:Type}:Nat→(Nat→R)→R
 | 0,f=>f 0
 | n+1,f=>f (n+1)
theorem o_mq {R:Type} (n:Nat) (f:Nat→R):forceN n f=f n:=by cases n<;>rfl
def forceI {R:Type}:Int→(Int→R)→R
 | .ofNat n,f=>forceN n fun m=>f (.ofNat m)
 | .negSucc n,f=>forceN n fun m=>f (.negSucc m)
theorem o_mr {R:Type} (n:Int) (f:Int→R):forceI n f=f n:=by cases n<;>simp only [forceI,o_mq]
mutual
def D.force {R:Type}:D→(D→R)→R
 | .int k n,f=>forceI n fun m=>f (.int k m)
 | .bool true,f=>f (.bool true)
 | .bool false,f=>f (.bool false)
 | .str s,f=>f (.str s)
 | .agg l,f=>D.forces l fun r=>f (.agg r)
 | .sl n l,f=>forceN n fun m=>D.forces l fun r=>f (.sl m r)
 | .slf n l,f=>forceN n fun m=>D.forces l fun r=>f (.slf m r)
 | .nilsl,f=>f .nilsl
 | .sl0,f=>f .sl0
 | .sle,f=>f .sle
 | .nilifc,f=>f .nilifc
 | .nilp,f=>f .nilp
 | .nilfn,f=>f .nilfn
 | .ifc t d,f=>D.force d fun e=>f (.ifc t e)
 | .ptr l o,f=>forceN o fun m=>D.forces l fun r=>f (.ptr r m)
def D.forces {R:Type}:List D→(List D→R)→R
 | [],f=>f []
 | x::l,f=>D.force x fun y=>D.forces l fun r=>f (y::r)
end
mutual
theorem D.force_eq {R:Type}:∀(x:D) (f:D→R),D.force x f=f x
 | .int k n,f=>by simp only [D.force,o_mr]
 | .bool true,f=>by simp only [D.force]
 | .bool false,f=>by simp only [D.force]
 | .str s,f=>by simp only [D.force]
 | .agg l,f=>by simp only [D.force];rw [D.forces_eq l]
 | .sl n l,f=>by simp only [D.force,o_mq];rw [D.forces_eq l]
 | .slf n l,f=>by simp only [D.force,o_mq];rw [D.forces_eq l]
 | .nilsl,f=>by simp only [D.force]
 | .sl0,f=>by simp only [D.force]
 | .sle,f=>by simp only [D.force]
 | .nilifc,f=>by simp only [D.force]
 | .nilp,f=>by simp only [D.force]
 | .nilfn,f=>by simp only [D.force]
 | .ifc t d,f=>by simp only [D.force];rw [D.force_eq d]
 | .ptr l o,f=>by simp only [D.force,o_mq];rw [D.forces_eq l]
theorem D.forces_eq {R:Type}:∀(l:List D) (f:List D→R),D.forces l f=f l
 | [],f=>by simp only [D.forces]
 | x::l,f=>by simp only [D.forces];rw [D.force_eq x,D.forces_eq l]
end
mutual
def V.force {R:Type}:V→(V→R)→R
 | .d x,f=>D.force x fun y=>f (.d y)
 | .agg l,f=>V.forces l fun r=>f (.agg r)
 | .tup l,f=>V.forces l fun r=>f (.tup r)
 | .p n o,f=>forceN n fun m=>forceN o fun q=>f (.p m q)
 | .row n o k,f=>forceN n fun m=>forceN o fun q=>forceN k fun j=>f (.row m q j)
 | .own n o k,f=>forceN n fun m=>forceN o fun q=>forceN k fun j=>f (.own m q j)
 | .mp n,f=>forceN n fun m=>f (.mp m)
 | .ch n,f=>forceN n fun m=>f (.ch m)
 | .fn g l,f=>V.forces l fun r=>f (.fn g r)
 | .fb g l,f=>V.forces l fun r=>f (.fb g r)
 | .junk,f=>f .junk
def V.forces {R:Type}:List V→(List V→R)→R
 | [],f=>f []
 | x::l,f=>V.force x fun y=>V.forces l fun r=>f (y::r)
end
mutual
theorem V.force_eq {R:Type}:∀(x:V) (f:V→R),V.force x f=f x
 | .d x,f=>by simp only [V.force,D.force_eq]
 | .agg l,f=>by simp only [V.force];rw [V.forces_eq l]
 | .tup l,f=>by simp only [V.force];rw [V.forces_eq l]
 | .p n o,f=>by simp only [V.force,o_mq]
 | .row n o k,f=>by simp only [V.force,o_mq]
 | .own n o k,f=>by simp only [V.force,o_mq]
 | .mp n,f=>by simp only [V.force,o_mq]
 | .ch n,f=>by simp only [V.force,o_mq]
 | .fn g l,f=>by simp only [V.force];rw [V.forces_eq l]
 | .fb g l,f=>by simp only [V.force];rw [V.forces_eq l]
 | .junk,f=>by simp only [V.force]
theorem V.forces_eq {R:Type}:∀(l:List V) (f:List V→R),V.forces l f=f l
 | [],f=>by simp only [V.forces]
 | x::l,f=>by simp only [V.forces];rw [V.force_eq x,V.forces_eq l]
end
def forceQ {R:Type} (x:V) (f:V→R):R:=match x with
 | .d y=>(match y with
  | .int k n=>forceI n fun m=>f (.d (.int k m))
  | .bool b=>(match b with
   | true=>f (.d (.bool true))
   | false=>f (.d (.bool false)))
  | z=>D.force z fun w=>f (.d w))
 | .p n o=>forceN n fun m=>forceN o fun q=>f (.p m q)
 | .junk=>f .junk
 | z=>V.force z f
theorem o_ms {R:Type} (x:V) (f:V→R):forceQ x f=f x:=by
 unfold forceQ
 split
 ·split
  ·rw [o_mr]
  ·split<;>rfl
  ·rw [D.force_eq]
 ·simp only [o_mq]
 ·rfl
 ·rw [V.force_eq]
def forceQs {R:Type}:List V→(List V→R)→R
 | [],f=>f []
 | x::l,f=>forceQ x fun y=>forceQs l fun r=>f (y::r)
theorem o_mt {R:Type}:∀(l:List V) (f:List V→R),forceQs l f=f l
 | [],f=>by simp only [forceQs]
 | x::l,f=>by simp only [forceQs];rw [o_ms x,o_mt l]
def setC {R:Type}:List V→Nat→V→(List V→R)→R
 | [],_,_,f=>f []
 | _::l,0,x,f=>f (x::l)
 | a::l,n+1,x,f=>setC l n x fun r=>f (a::r)
theorem o_mu {R:Type}:∀(l:List V) (n:Nat) (x:V) (f:List V→R),setC l n x f=f (l.set n x)
 | [],n,x,f=>by simp only [setC,List.set_nil]
 | a::l,0,x,f=>by simp only [setC,List.set_cons_zero]
 | a::l,n+1,x,f=>by simp only [setC,List.set_cons_succ];rw [o_mu l n x]
def putC {R:Type} (T:List V):Option Nat→V→(List V→R)→R
 | none,_,f=>f T
 | some n,x,f=>forceQ x fun y=>setC T n y f
theorem o_mv {R:Type} (T:List V) (d:Option Nat) (x:V) (f:List V→R):putC T d x f=f (putT T d x):=by
 cases d with
 | none=>rfl
 | some n=>simp only [putC,o_ms,o_mu];rfl
def forceO {R:Type}:Option Ob→(Option Ob→R)→R
 | none,f=>f none
 | some ⟨t,c⟩,f=>forceQs c fun r=>f (some ⟨t,r⟩)
theorem o_mw {R:Type} (o:Option Ob) (f:Option Ob→R):forceO o f=f o:=by
 cases o with
 | none=>rfl
 | some ob=>simp only [forceO,o_mt]
def forceH {R:Type} (wr:List Nat):Nat→List (Option Ob)→(List (Option Ob)→R)→R
 | _,[],f=>f []
 | i,a::l,f=>match wr.any (Nat.beq i) with
  | true=>forceO a fun b=>forceH wr (i+1) l fun r=>f (b::r)
  | false=>forceH wr (i+1) l fun r=>f (a::r)
theorem o_mx {R:Type} (wr:List Nat):∀(i:Nat) (l:List (Option Ob)) (f:List (Option Ob)→R),forceH wr i l f=f l
 | i,[],f=>by simp only [forceH]
 | i,a::l,f=>by
  unfold forceH
  split
  ·rw [o_mw,o_mx wr (i+1) l]
  ·rw [o_mx wr (i+1) l]
def forceHs {R:Type}:List Ob→(List Ob→R)→R
 | [],f=>f []
 | ⟨t,c⟩::l,f=>forceQs c fun r=>forceHs l fun q=>f (⟨t,r⟩::q)
theorem o_my {R:Type}:∀(l:List Ob) (f:List Ob→R),forceHs l f=f l
 | [],f=>by simp only [forceHs]
 | ⟨t,c⟩::l,f=>by simp only [forceHs];rw [o_mt,o_my l]
def forceW {R:Type}:List Nat→(List Nat→R)→R
 | [],f=>f []
 | a::l,f=>forceN a fun b=>forceW l fun r=>f (b::r)
theorem o_mz {R:Type}:∀(l:List Nat) (f:List Nat→R),forceW l f=f l
 | [],f=>by simp only [forceW]
 | a::l,f=>by simp only [forceW,o_mq];rw [o_mz l]
def forceR {R:Type} (H:List (Option Ob)) (r:R4) (f:V→List (Option Ob)→List Nat→List Nat→R):R:=forceW r.2.2.1 fun rd=>forceW r.2.2.2 fun wr=>match wr with
 | []=>forceH [] 0 r.2.1 fun h=>f r.1 h rd []
 | w=>forceH w 0 r.2.1 fun h=>f r.1 h rd w
theorem o_n0 {R:Type} (H:List (Option Ob)) (r:R4) (f:V→List (Option Ob)→List Nat→List Nat→R):forceR H r f=f r.1 r.2.1 r.2.2.1 r.2.2.2:=by
 unfold forceR
 simp only [o_mz]
 split<;>simp_all only [o_mx]

section
variable (cl:FuncId→List V→List (Option Ob)→Option R4) (mt:TypeId→String→Option FuncId)
def evOps (draw:Bool):List O→List E→List V→List (Option Ob)→Option (List (List V×List (Option Ob)))
 | [],tr,T,H=>if draw then (if okTrace tr=true then some [(T,H)] else none) else some [(T,H)]
 | o::os,tr,T,H=>match o.g with
  | none=>match A.evs T H cl mt o.a with
   | some rs=>bindL rs fun r=>forceR H r fun x h rd wr=>putC T o.dst x fun T'=>evOps draw os (⟨o.a.slots,o.dst,rd,wr,o.after⟩::tr) T' h
   | none=>none
  | some (s,w)=>match T.getD s .junk with
   | .d (.bool b)=>if b=w then (match A.evs T H cl mt o.a with
     | some rs=>bindL rs fun r=>forceR H r fun x h rd wr=>putC T o.dst x fun T'=>evOps draw os (⟨s::o.a.slots,o.dst,rd,wr,o.after⟩::tr) T' h
     | none=>none) else putC T o.dst (.tup []) fun T'=>evOps draw os (⟨[s],o.dst,[],[],o.after⟩::tr) T' H
   | .tup []=>putC T o.dst (.tup []) fun T'=>evOps draw os (⟨[s],o.dst,[],[],o.after⟩::tr) T' H
   | _=>none
abbrev Out:=Exit×List V×List (Option Ob)
def Out.blk (id:Nat):Out→Out
 | (.exit j,T,H)=>if j=id then (.normal,T,H) else (.exit j,T,H)
 | o=>o
variable (fz:Option (Nat×List Nat)) in
def evC:Nat→C→List V→List (Option Ob)→Option (List Out)
 | 0,_,_,_=>none
 | n+1,c,T,H=>match c with
  | .skip=>some [(.normal,T,H)]
  | .ret=>match fz with
   | none=>some [(.ret,T,H)]
   | some (k,sl)=>let ex:=V.namess (sl.map fun i=>T.getD i .junk)
    let l:=((List.range H.length).drop k).filter fun n=>!ex.contains n
    let r:=fzAll (l++(l++l)) (T,H)
    some [(.ret,r.1,r.2)]
  | .exit i=>some [(.exit i,T,H)]
  | .seq a b=>match evC n a T H with
   | some l=>bindL l fun o=>match o.1 with
    | .normal=>evC n b o.2.1 o.2.2
    | _=>some [o]
   | none=>none
  | .cond c a b=>match c.ev T with
   | .d (.bool t)=>if t then evC n a T H else evC n b T H
   | _=>none
  | .block id a=>(evC n a T H).map fun l=>l.map (Out.blk id)
  | .loop a=>match evC n a T H with
   | some l=>bindL l fun o=>match o.1 with
    | .normal=>evC n (.loop a) o.2.1 o.2.2
    | _=>some [o]
   | none=>none
  | .reg draw ops=>(evOps cl mt draw ops [] T H).map fun l=>l.map fun r=>(.normal,r.1,r.2)
  | _=>none
end
section
variable {P:Program} {cl:FuncId→List V→List (Option Ob)→Option R4} {mt:TypeId→String→Option FuncId}
theorem o_n1 (hcl:∀f args H r,cl f args H=some r→∀K,R4.then r K→CallS P f args H K) (hmt:∀t name g,mt t name=some g→MethOK P t name g) {draw:Bool}:∀(os:List O) (tr:List E) (T:List V) (H:List (Option Ob)) (outs:List (List V×List (Option Ob))),evOps cl mt draw os tr T H=some outs→∀K:List V→List (Option Ob)→Prop,(∀o∈outs,K o.1 o.2)→vops P draw K os tr T H
 | [],tr,T,H,outs,h,K,hK=>by
  unfold evOps at h
  unfold vops
  cases draw
  ·simp only [Bool.false_eq_true,if_false] at h ⊢
   cases h;exact hK (T,H) (List.mem_singleton.2 rfl)
  ·simp only [if_true] at h ⊢
   split at h
   ·rename_i ho
    cases h;exact ⟨ho,hK (T,H) (List.mem_singleton.2 rfl)⟩
   ·cases h
 | o::os,tr,T,H,outs,h,K,hK=>by
  have step:∀(tl:R4→List E) (rs:List R4),A.evs T H cl mt o.a=some rs→bindL rs (fun r=>evOps cl mt draw os (tl r) (putT T o.dst r.1) r.2.1)=some outs→A.step P T H (fun x H' rd wr=>vops P draw K os (tl (x,H',rd,wr)) (putT T o.dst x) H') o.a:=fun tl rs hr hb=>by
   refine A.evs_ok hcl hmt o.a rs hr _ fun r hr'=>?_
   obtain ⟨x,hx,hsub⟩:=o_mm hb r hr'
   exact o_n1 hcl hmt os _ _ _ x hx K fun o ho=>hK o (hsub o ho)
  unfold evOps at h
  simp only [o_n0,o_mv] at h
  unfold vops
  cases hg:o.g with
  | none =>
   rw [hg] at h
   simp only at h ⊢
   split at h
   ·rename_i rs hr
    exact step (fun r=>⟨o.a.slots,o.dst,r.2.2.1,r.2.2.2,o.after⟩::tr) rs hr h
   ·cases h
  | some sw =>
   obtain ⟨s,w⟩:=sw
   rw [hg] at h
   simp only at h ⊢
   split at h
   ·rename_i b hb
    split at h
    ·rename_i hbw
     split at h
     ·rename_i rs hr
      rw [hb]
      exact ⟨fun _=>step (fun r=>⟨s::o.a.slots,o.dst,r.2.2.1,r.2.2.2,o.after⟩::tr) rs hr h,fun hn=>absurd hbw hn⟩
     ·cases h
    ·rename_i hbw
     rw [hb]
     exact ⟨fun hn=>absurd hn hbw,fun _=>o_n1 hcl hmt os _ _ _ outs h K hK⟩
   ·rename_i hb
    rw [hb]
    exact o_n1 hcl hmt os _ _ _ outs h K hK
   ·cases h
theorem o_n2 (hmix:P.follows .mixedOrders=true) (hcl:∀f args H r,cl f args H=some r→∀K,R4.then r K→CallS P f args H K) (hmt:∀t name g,mt t name=some g→MethOK P t name g) {fz:Option (Nat×List Nat)} {L:Nat}:∀(n:Nat),(∀(c:C) (T:List V) (H:List (Option Ob)) (outs:List Out),evC cl mt fz n c T H=some outs→∀Q:Exit→List V→List (Option Ob)→Prop,(∀o∈outs,Q o.1 o.2.1 o.2.2)→AW P L c Q T H)∧(∀(a:C) (T:List V) (H:List (Option Ob)) (outs:List Out),evC cl mt fz n (.loop a) T H=some outs→∀Q:Exit→List V→List (Option Ob)→Prop,(∀o∈outs,Q o.1 o.2.1 o.2.2)→AWu P L a Q n T H)
 | 0=>⟨fun c T H outs h=>(by cases h),fun a T H outs h=>(by cases h)⟩
 | n+1=>by
  obtain ⟨ih,ihl⟩:=o_n2 hmix hcl hmt (L:=L) n
  have hl:∀(a:C) (T:List V) (H:List (Option Ob)) (outs:List Out),evC cl mt fz (n+1) (.loop a) T H=some outs→∀Q:Exit→List V→List (Option Ob)→Prop,(∀o∈outs,Q o.1 o.2.1 o.2.2)→AWu P L a Q (n+1) T H:=by
   intro a T H outs h Q hQ
   simp only [evC] at h
   cases ha:evC cl mt fz n a T H with
   | none=>rw [ha] at h;cases h
   | some l =>
    rw [ha] at h
    simp only at h
    refine AWu.next (ih a T H l ha _ fun o ho=>?_)
    obtain ⟨x,hx,hsub⟩:=o_mm h o ho
    obtain ⟨e1,T1,H1⟩:=o
    cases e1 with
    | normal=>exact ihl a T1 H1 x hx Q fun o ho=>hQ o (hsub o ho)
    | _=>cases hx;exact hQ _ (hsub _ (List.mem_singleton.2 rfl))
  have one:∀{o:Out} {outs:List Out} {Q:Exit→List V→List (Option Ob)→Prop},some [o]=some outs→(∀o∈outs,Q o.1 o.2.1 o.2.2)→Q o.1 o.2.1 o.2.2:=fun h hQ=>by cases h;exact hQ _ (List.mem_singleton.2 rfl)
  refine ⟨fun c T H outs h Q hQ=>?_,hl⟩
  cases c with
  | skip=>exact AW.skip (one h hQ)
  | ret =>
   simp only [evC] at h
   split at h
   ·exact AW.ret (one h hQ)
   ·exact o_mp _ (T,H) (AW.ret (one h hQ))
  | exit i=>exact AW.exit (one h hQ)
  | seq a b =>
   simp only [evC] at h
   refine AW.seq ?_
   cases ha:evC cl mt fz n a T H with
   | none=>rw [ha] at h;cases h
   | some l =>
    rw [ha] at h
    simp only at h
    refine ih a T H l ha _ fun o ho=>?_
    obtain ⟨x,hx,hsub⟩:=o_mm h o ho
    obtain ⟨e1,T1,H1⟩:=o
    cases e1 with
    | normal=>exact ih b T1 H1 x hx Q fun o ho=>hQ o (hsub o ho)
    | _=>cases hx;exact hQ _ (hsub _ (List.mem_singleton.2 rfl))
  | cond c a b =>
   simp only [evC] at h
   split at h
   ·rename_i t ht
    refine AW.cond ht (fun hh=>?_) (fun hh=>?_)
    ·subst hh;exact ih a T H outs h Q hQ
    ·subst hh;exact ih b T H outs h Q hQ
   ·cases h
  | block id a =>
   simp only [evC,Option.map_eq_some_iff] at h
   obtain ⟨l,ha,h2⟩:=h
   subst h2
   refine AW.block (ih a T H l ha _ fun o ho=>?_)
   have hq:=hQ _ (List.mem_map.2 ⟨o,ho,rfl⟩)
   obtain ⟨e1,T1,H1⟩:=o
   cases e1 with
   | exit j =>
    simp only [Out.blk] at hq
    simp only [blockQ]
    split at hq
    ·rename_i hj;rw [if_pos hj];exact hq
    ·rename_i hj;rw [if_neg hj];exact hq
   | _=>exact hq
  | loop a=>exact AW.rounds (n+1) (hl a T H outs h Q hQ)
  | reg draw ops =>
   simp only [evC,Option.map_eq_some_iff] at h
   obtain ⟨l,h1,h2⟩:=h
   subst h2
   exact AW.reg hmix (o_n1 hcl hmt ops [] T H l h1 _ fun o ho=>hQ _ (List.mem_map.2 ⟨o,ho,rfl⟩))
  | _=>cases h
theorem o_n3 (hmix:P.follows .mixedOrders=true) (hcl:∀f args H r,cl f args H=some r→∀K,R4.then r K→CallS P f args H K) (hmt:∀t name g,mt t name=some g→MethOK P t name g) {fz:Option (Nat×List Nat)} {L n:Nat} {c:C} {T:List V} {H:List (Option Ob)} {outs:List Out} (h:evC cl mt fz n c T H=some outs) {Q:Exit→List V→List (Option Ob)→Prop} (hQ:∀o∈outs,Q o.1 o.2.1 o.2.2):AW P L c Q T H :=
 (o_n2 hmix hcl hmt n).1 c T H outs h Q hQ
end

def posOf (θ:List Nat) (n:Nat):Nat:=match θ with
 | []=>0
 | m::r=>if m=n then 0 else posOf r n+1
theorem o_n4 {n:Nat}:∀{θ:List Nat},n∈θ→posOf θ n<θ.length∧θ.getD (posOf θ n) 0=n
 | m::r,h=>by
  unfold posOf
  by_cases e:m=n
  ·rw [if_pos e];exact ⟨by simp,by simpa using e⟩
  ·rw [if_neg e]
   obtain ⟨h1,h2⟩:=o_n4 (θ:=r) (n:=n) (by
    rcases List.mem_cons.1 h with h | h
    ·exact absurd h.symm e
    ·exact h)
   exact ⟨by simp;omega,by simpa using h2⟩
def inNames (θ:List Nat) (l:List Nat):Bool:=l.all fun n=>θ.contains n
theorem o_n5 {θ l:List Nat} (h:inNames θ l=true):∀n∈l,n∈θ:=fun n hn=>by
 have:=List.all_eq_true.1 h n hn
 simpa using this
mutual
theorem V.ren_back {θ:List Nat} {ρ:Nat→Nat} (hρ:∀n∈θ,ρ (posOf θ n)=n):∀(x:V),(∀n∈x.names,n∈θ)→(x.ren (posOf θ)).ren ρ=x
 | .d x,_=>rfl
 | .agg l,h=>by simp only [V.ren];rw [V.rens_back hρ l h]
 | .tup l,h=>by simp only [V.ren];rw [V.rens_back hρ l h]
 | .p n off,h=>by simp only [V.ren];rw [hρ n (h n (by simp [V.names]))]
 | .row n off len,h=>by simp only [V.ren];rw [hρ n (h n (by simp [V.names]))]
 | .own n s len,h=>by simp only [V.ren];rw [hρ n (h n (by simp [V.names]))]
 | .mp n,h=>by simp only [V.ren];rw [hρ n (h n (by simp [V.names]))]
 | .ch n,h=>by simp only [V.ren];rw [hρ n (h n (by simp [V.names]))]
 | .fn f l,h=>by simp only [V.ren];rw [V.rens_back hρ l h]
 | .fb f l,h=>by simp only [V.ren];rw [V.rens_back hρ l h]
 | .junk,_=>rfl
theorem V.rens_back {θ:List Nat} {ρ:Nat→Nat} (hρ:∀n∈θ,ρ (posOf θ n)=n):∀(l:List V),(∀n∈V.namess l,n∈θ)→V.rens ρ (V.rens (posOf θ) l)=l
 | [],_=>rfl
 | x::l,h=>by
  simp only [V.rens]
  rw [V.ren_back hρ x fun n hn=>h n (by simp [V.namess,hn]),V.rens_back hρ l fun n hn=>h n (by simp [V.namess,hn])]
end
mutual
theorem V.low_pos {θ:List Nat}:∀(x:V),(∀n∈x.names,n∈θ)→(x.ren (posOf θ)).low θ.length=true
 | .d x,_=>rfl
 | .agg l,h=>by simp only [V.ren,V.low];exact V.lowl_pos l h
 | .tup l,h=>by simp only [V.ren,V.low];exact V.lowl_pos l h
 | .p n off,h=>by simp only [V.ren,V.low,decide_eq_true_eq];exact (o_n4 (h n (by simp [V.names]))).1
 | .row n off len,h=>by simp only [V.ren,V.low,decide_eq_true_eq];exact (o_n4 (h n (by simp [V.names]))).1
 | .own n s len,h=>by simp only [V.ren,V.low,decide_eq_true_eq];exact (o_n4 (h n (by simp [V.names]))).1
 | .mp n,h=>by simp only [V.ren,V.low,decide_eq_true_eq];exact (o_n4 (h n (by simp [V.names]))).1
 | .ch n,h=>by simp only [V.ren,V.low,decide_eq_true_eq];exact (o_n4 (h n (by simp [V.names]))).1
 | .fn f l,h=>by simp only [V.ren,V.low];exact V.lowl_pos l h
 | .fb f l,h=>by simp only [V.ren,V.low];exact V.lowl_pos l h
 | .junk,_=>rfl
theorem V.lowl_pos {θ:List Nat}:∀(l:List V),(∀n∈V.namess l,n∈θ)→V.lowl θ.length (V.rens (posOf θ) l)=true
 | [],_=>rfl
 | x::l,h=>by
  simp only [V.rens,V.lowl,Bool.and_eq_true]
  exact ⟨V.low_pos x fun n hn=>h n (by simp [V.namess,hn]),V.lowl_pos l fun n hn=>h n (by simp [V.namess,hn])⟩
end
def reachN (H:List (Option Ob)):Nat→List Nat→List Nat→List Nat
 | 0,_,seen=>seen
 | _+1,[],seen=>seen
 | k+1,n::r,seen=>if seen.contains n then reachN H k r seen else match H.getD n none with
  | some ob=>reachN H k (V.namess ob.c++r) (seen++[n])
  | none=>reachN H k r (seen++[n])
def nodupB:List Nat→Bool
 | []=>true
 | n::l=>!l.contains n&&nodupB l
theorem o_n6:∀{l:List Nat},nodupB l=true→l.Nodup
 | [],_=>by simp
 | n::l,h=>by
  simp only [nodupB,Bool.and_eq_true,Bool.not_eq_true',List.contains_eq_mem,decide_eq_false_iff_not] at h
  exact List.nodup_cons.2 ⟨h.1,o_n6 h.2⟩
def obsOf (H:List (Option Ob)) (θ':List Nat):List Nat→Option (List Ob)
 | []=>some []
 | n::θ=>match H.getD n none,obsOf H θ' θ with
  | some ob,some l=>if inNames θ' (V.namess ob.c)=true then some (⟨ob.T,V.rens (posOf θ') ob.c⟩::l) else none
  | _,_=>none
theorem o_n7 {H:List (Option Ob)} {θ':List Nat} {ρ:Nat→Nat} (hρ:∀n∈θ',ρ (posOf θ' n)=n):∀{θ:List Nat} {l:List Ob},obsOf H θ' θ=some l→obsAt θ'.length H ρ θ l∧l.length=θ.length
 | [],l,h=>by cases h;exact ⟨trivial,rfl⟩
 | n::θ,l,h=>by
  simp only [obsOf] at h
  split at h
  ·rename_i ob l' h1 h2
   split at h
   ·rename_i h3
    cases h
    obtain ⟨h4,h5⟩:=o_n7 hρ h2
    refine ⟨⟨⟨V.lowl_pos _ (o_n5 h3),?_⟩,h4⟩,by simp [h5]⟩
    rw [V.rens_back hρ _ (o_n5 h3)];exact h1
   ·cases h
  ·cases h
def obsEnd (H:List (Option Ob)) (θ':List Nat) (k:Nat):List Nat→Option (List Ob)
 | []=>some []
 | n::θ=>match obsEnd H θ' k θ with
  | some l=>match H.getD n none with
   | some ob=>if inNames θ' (V.namess ob.c)=true then some (⟨ob.T,V.rens (posOf θ') ob.c⟩::l) else none
   | none=>if n<k then some (⟨0,[]⟩::l) else none
  | none=>none
theorem o_n8 {H:List (Option Ob)} {θ':List Nat} {k:Nat} {ρ:Nat→Nat} (hρ:∀n∈θ',ρ (posOf θ' n)=n) (dead:List Nat):∀{θ:List Nat} {l:List Ob} (j:Nat),obsEnd H θ' k θ=some l→(∀i,i<θ.length→H.getD (θ.getD i 0) none=none→i+j∈dead)→obsIs H ρ dead j θ l∧l.length=θ.length∧∀ob∈l,V.lowl θ'.length ob.c=true
 | [],l,j,h,hd=>by cases h;exact ⟨trivial,rfl,by simp⟩
 | n::θ,l,j,h,hd=>by
  simp only [obsEnd] at h
  split at h
  ·rename_i l' h2
   obtain ⟨h4,h5,h6⟩:=o_n8 hρ dead (j+1) h2 fun i hi hn=>by
    have:=hd (i+1) (by simp;omega) (by simpa using hn)
    rw [show i+(j+1)=i+1+j by omega];exact this
   split at h
   ·rename_i ob h1
    split at h
    ·rename_i h3
     cases h
     refine ⟨⟨.inr ?_,h4⟩,by simp [h5],fun o ho=>?_⟩
     ·show obIs H n _
      rw [V.rens_back hρ _ (o_n5 h3)]
      exact ⟨ob,h1,rfl,Subs.refl _⟩
     ·rcases List.mem_cons.1 ho with rfl | ho
      ·exact V.lowl_pos _ (o_n5 h3)
      ·exact h6 o ho
    ·cases h
   ·rename_i h1
    split at h
    ·cases h
     refine ⟨⟨.inl ?_,h4⟩,by simp [h5],fun o ho=>?_⟩
     ·have:=hd 0 (by simp) (by simpa using h1)
      simpa using this
     ·rcases List.mem_cons.1 ho with rfl | ho
      ·rfl
      ·exact h6 o ho
    ·cases h
  ·cases h

theorem o_n9 {H:List (Option Ob)} {θ':List Nat} {k:Nat}:∀{θ:List Nat} {l:List Ob},obsEnd H θ' k θ=some l→∀i,i<θ.length→H.getD (θ.getD i 0) none=none→θ.getD i 0<k
 | [],l,h,i,hi,hn=>absurd hi (by simp)
 | n::θ,l,h,i,hi,hn=>by
  simp only [obsEnd] at h
  split at h
  ·rename_i l' h2
   cases i with
   | succ i=>simpa using o_n9 h2 i (by simpa using hi) (by simpa using hn)
   | zero =>
    have hn:H.getD n none=none:=by simpa using hn
    rw [hn] at h
    simp only at h
    split at h
    ·rename_i h3;simpa using h3
    ·cases h
  ·cases h
theorem o_na {θ:List Nat} (dead:List Nat) (h:θ.Nodup):apartB θ dead=true:=by
 refine List.all_eq_true.2 fun i hi=>List.all_eq_true.2 fun j hj=>?_
 have hi:=List.mem_range.1 hi
 have hj:=List.mem_range.1 hj
 by_cases e:i=j
 ·subst e;simp
 ·have:θ.getD i 0≠θ.getD j 0:=by
   rw [List.getD_eq_getElem?_getD,List.getD_eq_getElem?_getD,List.getElem?_eq_getElem hi,List.getElem?_eq_getElem hj]
   intro he
   exact e ((List.getElem_inj (h₀:=hi) (h₁:=hj) h).1 (by simpa using he))
  have h2:(θ.getD i 0 != θ.getD j 0)=true:=by simpa using this
  rw [h2];simp
def exitB:Exit→Bool
 | .normal | .ret=>true
 | _=>false
def beqNs:List Nat→List Nat→Bool
 | [],[]=>true
 | a::l,b::r=>Nat.beq a b&&beqNs l r
 | _,_=>false
theorem o_nb:∀{a b:List Nat},beqNs a b=true→a=b
 | [],[],_=>rfl
 | a::l,b::r,h=>by
  simp only [beqNs,Bool.and_eq_true] at h
  rw [Nat.eq_of_beq_eq_true h.1,o_nb h.2]
def deadOf (H:List (Option Ob)) (k:Nat):List Nat:=(List.range k).filter fun i=>(H.getD i none).isNone
def outF (rs:List RV) (k:Nat) (o:Out):Option (V×List Ob×List Nat×List Nat):=match outV o.2.1 o.2.2 rs with
 | some x0 =>
  let x:=x0.norm
  let θ:=reachN o.2.2 100000 ((List.range k).flatMap (fun i=>match o.2.2.getD i none with | some ob=>V.namess ob.c | none=>[])++x.names) (List.range k)
  match obsEnd o.2.2 θ k θ with
  | some Hs'=>if exitB o.1&&beqNs (θ.take k) (List.range k)&&nodupB θ&&inNames θ x.names then some (x.ren (posOf θ),Hs',deadOf o.2.2 k,θ) else none
  | none=>none
 | none=>none
theorem o_nc {rs:List RV} {k:Nat} {o:Out} {X:V} {Hs':List Ob} {dead θ:List Nat} (h:outF rs k o=some (X,Hs',dead,θ)) :
  k≤Hs'.length∧(∀i∈dead,i<k)∧θ.take k=List.range k∧apartB θ dead=true∧X.low Hs'.length=true∧(∀ob∈Hs',V.lowl Hs'.length ob.c=true)∧retG rs θ X Hs' dead o.1 o.2.1 o.2.2:=by
 obtain ⟨e,T,H⟩:=o
 unfold outF at h
 simp only at h
 split at h
 ·rename_i x0 hx
  generalize hnx:x0.norm=x at h
  generalize hθ:reachN H 100000 ((List.range k).flatMap (fun i=>match H.getD i none with | some ob=>V.namess ob.c | none=>[])++x.names) (List.range k)=θ1 at h
  split at h
  ·rename_i Hs1 hob
   split at h
   ·rename_i hb
    simp only [Bool.and_eq_true] at hb
    obtain ⟨⟨⟨h1,h2⟩,h3⟩,h4⟩:=hb
    cases h
    have hnd:=o_n6 h3
    have htk:=o_nb h2
    have hρ:∀n∈θ,(fun i=>θ.getD i 0) (posOf θ n)=n:=fun n hn=>(o_n4 hn).2
    have hdead:∀i,i<θ.length→H.getD (θ.getD i 0) none=none→i+0∈deadOf H k:=by
     intro i hi hn
     have h5:=o_n9 hob i hi hn
     have h6:θ.getD (θ.getD i 0) 0=θ.getD i 0:=by
      have h7:(θ.take k)[θ.getD i 0]?=(List.range k)[θ.getD i 0]?:=by rw [htk]
      rw [List.getElem?_take,if_pos h5,List.getElem?_range h5] at h7
      rw [List.getD_eq_getElem?_getD,h7];rfl
     have h8:θ.getD i 0<θ.length:=by
      have:=congrArg List.length htk
      simp at this
      omega
     have h9:θ.getD i 0=i:=by
      have a1:θ.getD (θ.getD i 0) 0=θ[θ.getD i 0]:=by rw [List.getD_eq_getElem?_getD,List.getElem?_eq_getElem h8];rfl
      have a2:θ.getD i 0=θ[i]:=by rw [List.getD_eq_getElem?_getD,List.getElem?_eq_getElem hi];rfl
      exact (List.getElem_inj (h₀:=h8) (h₁:=hi) hnd).1 (by rw [←a1,h6,a2])
     rw [h9] at hn h5
     exact List.mem_filter.2 ⟨List.mem_range.2 h5,by show (H.getD i none).isNone=true;rw [hn];rfl⟩
    obtain ⟨o1,o2,o3⟩:=o_n8 (ρ:=fun i=>θ.getD i 0) hρ (deadOf H k) 0 hob hdead
    have hkl:k≤Hs'.length:=by
     rw [o2]
     have:=congrArg List.length htk
     simp at this
     omega
    refine ⟨hkl,fun i hi=>?_,htk,o_na _ hnd,?_,?_,?_⟩
    ·exact List.mem_range.1 (List.mem_filter.1 hi).1
    ·rw [o2];exact V.low_pos x (o_n5 h4)
    ·rw [o2];exact o3
    ·have:(∃y,outV T H rs=some y∧Sub1 y ((x.ren (posOf θ)).ren fun i=>θ.getD i 0))∧obsIs H (fun i=>θ.getD i 0) (deadOf H k) 0 θ Hs' :=
      ⟨⟨x0,hx,by rw [V.ren_back hρ x (o_n5 h4),←hnx];exact V.norm_sub x0⟩,o1⟩
     cases e<;>first | exact this | cases h1
   ·cases h
  ·cases h
 ·cases h
def sameR (r s:V×List Ob×List Nat×List Nat):Bool:=V.beq r.1 s.1&&obsB r.2.1 s.2.1&&beqNs r.2.2.1 s.2.2.1&&beqNs r.2.2.2 s.2.2.2
theorem o_nd {r s:V×List Ob×List Nat×List Nat} (h:sameR r s=true):r=s:=by
 simp only [sameR,Bool.and_eq_true] at h
 obtain ⟨⟨⟨h1,h2⟩,h3⟩,h4⟩:=h
 obtain ⟨a,b,c,d⟩:=r
 obtain ⟨a',b',c',d'⟩:=s
 rw [show a=a' from V.beq_ok _ _ h1,show b=b' from o_mn h2,show c=c' from o_nb h3,show d=d' from o_nb h4]
def evF (tbl:FuncId→Option (C×List RV×Nat)) (fz:FuncId→Bool) (cl:FuncId→List V→List (Option Ob)→Option R4) (mt:TypeId→String→Option FuncId) (n:Nat) (f:FuncId) (args:List V) (Hs:List Ob):Option (V×List Ob×List Nat) :=
 match tbl f with
 | some (c,rs,nt)=>match forceQs args fun args0=>forceHs Hs fun Hs0=>evC cl mt (if fz f then some (Hs.length,rs.filterMap fun | .cell n _ _=>some n | _=>none) else none) n c (args0++List.replicate (nt-args0.length) .junk) (Hs0.map some) with
  | some outs=>match bindL outs fun o=>(outF rs Hs.length o).map fun r=>[r] with
   | some (r::l)=>if l.all (sameR r) then some (r.1,r.2.1,r.2.2.1) else none
   | _=>none
  | none=>none
 | none=>none
theorem o_ne {P:Program} {tbl:FuncId→Option (C×List RV×Nat)} {fz:FuncId→Bool} {cl:FuncId→List V→List (Option Ob)→Option R4} {mt:TypeId→String→Option FuncId} {n:Nat} {f:FuncId} {args:List V} {Hs:List Ob} {X:V} {Hs':List Ob} {dead:List Nat}
  (hmix:P.follows .mixedOrders=true) (htbl:∀f c rs nt,tbl f=some (c,rs,nt)→fnOf P f=some (c,rs,nt,false)) (hcl:∀f args H r,cl f args H=some r→∀K,R4.then r K→CallS P f args H K) (hmt:∀t name g,mt t name=some g→MethOK P t name g)
  (h:evF tbl fz cl mt n f args Hs=some (X,Hs',dead)):EqnD P f args Hs X Hs' dead:=by
 unfold evF at h
 simp only [o_mt,o_my] at h
 split at h
 ·rename_i c rs nt hf
  split at h
  ·rename_i outs hc
   split at h
   ·rename_i r l hb
    split at h
    ·rename_i hall
     obtain ⟨X1,Hs1,dead1,θ⟩:=r
     injection h with h
     injection h with h1 h2
     injection h2 with h2 h3
     simp only at h1 h2 h3
     subst h1;subst h2;subst h3
     have each:∀o∈outs,outF rs Hs.length o=some (X1,Hs1,dead1,θ):=fun o ho=>by
      obtain ⟨x,hx,hsub⟩:=o_mm hb o ho
      rw [Option.map_eq_some_iff] at hx
      obtain ⟨r,hr,rfl⟩:=hx
      rw [hr]
      rcases List.mem_cons.1 (hsub r (List.mem_singleton.2 rfl)) with h | h
      ·rw [h]
      ·rw [←o_nd (List.all_eq_true.1 hall r h)]
     cases outs with
     | nil=>cases hb
     | cons o0 outs =>
      obtain ⟨a1,a2,a3,a4,a5,a6,_⟩:=o_nc (each o0 (List.mem_cons_self ..))
      exact Eqn.gen θ (htbl _ _ _ _ hf) a1 a2 a3 a4 a5 a6 (o_n3 hmix hcl hmt hc fun o ho=>(o_nc (each o ho)).2.2.2.2.2.2)
    ·cases h
   ·cases h
  ·cases h
 ·cases h
def evCl (tbl:FuncId→Option (C×List RV×Nat)) (fz:FuncId→Bool) (orc:FuncId→List V→List (Option Ob)→Option R4) (mt:TypeId→String→Option FuncId) (fuel:Nat):Nat→FuncId→List V→List (Option Ob)→Option R4
 | 0,_,_,_=>none
 | n+1,f,args,H=>match orc f args H with
  | some r=>some r
  | none =>
   let θ:=reachN H 100000 (V.namess args) []
   if inNames θ (V.namess args)&&nodupB θ then
    match obsOf H θ θ with
    | some Hs=>match evF tbl fz (evCl tbl fz orc mt fuel n) mt fuel f (V.rens (posOf θ) args) Hs with
     | some (X,Hs',dead)=>some (X.ren (nameOf θ H.length),killAll (putAll H θ (Hs'.map fun ob=>⟨ob.T,V.rens (nameOf θ H.length) ob.c⟩)) θ dead,[],θ++(List.range (Hs'.length-Hs.length)).map (H.length + ·))
     | none=>none
    | none=>none
   else none
theorem o_nf {θ:List Nat} {L:Nat}:∀n∈θ,nameOf θ L (posOf θ n)=n:=fun n hn=>by
 unfold nameOf
 rw [if_pos (o_n4 hn).1];exact (o_n4 hn).2
theorem o_ng {P:Program} {tbl:FuncId→Option (C×List RV×Nat)} {fz:FuncId→Bool} {orc:FuncId→List V→List (Option Ob)→Option R4} {mt:TypeId→String→Option FuncId} {fuel:Nat}
  (hmix:P.follows .mixedOrders=true) (htbl:∀f c rs nt,tbl f=some (c,rs,nt)→fnOf P f=some (c,rs,nt,false)) (horc:∀f args H r,orc f args H=some r→∀K,R4.then r K→CallS P f args H K) (hmt:∀t name g,mt t name=some g→MethOK P t name g) :
  ∀n f args H r,evCl tbl fz orc mt fuel n f args H=some r→∀K,R4.then r K→CallS P f args H K
 | 0,_,_,_,_,h=>by cases h
 | n+1,f,args,H,r,h=>fun K hK=>by
  unfold evCl at h
  split at h
  ·rename_i r' hr;cases h;exact horc _ _ _ _ hr K hK
  ·simp only at h
   generalize hθ:reachN H 100000 (V.namess args) []=θ at h
   split at h
   ·rename_i hb
    simp only [Bool.and_eq_true] at hb
    split at h
    ·rename_i Hs hHs
     split at h
     ·rename_i X Hs' dead hF
      cases h
      have E:=o_ne hmix htbl (o_ng hmix htbl horc hmt n) hmt hF
      obtain ⟨a1,a2⟩:=o_n7 (ρ:=nameOf θ H.length) o_nf hHs
      refine CallS.gen θ E (o_n6 hb.2) ?_ ?_ ?_ hK
      ·rw [a2];exact a1
      ·rw [a2];exact V.lowl_pos args (o_n5 hb.1)
      ·rw [V.rens_back o_nf args (o_n5 hb.1)];exact Subs.refl _
     ·cases h
    ·cases h
   ·cases h

def orcB (fa fs fc:FuncId) (f:FuncId) (args:List V) (H:List (Option Ob)):Option R4:=match args with
 | [.d .sl0]=>if Nat.beq f fc=true then some (.d (.sl 0 []),H,[],[]) else none
 | [.d (.sl 0 [])]=>if Nat.beq f fc=true then some (.d (.sl 0 []),H,[],[]) else none
 | [.d (.int .u64 x),.d (.int .u64 y),.d (.int .u64 c)] =>
  if 0≤x∧x<18446744073709551616∧0≤y∧y<18446744073709551616∧0≤c∧c≤1 then
   (if Nat.beq f fa=true then some (.tup [.d (.int .u64 ((x+y+c)%18446744073709551616)),.d (.int .u64 ((x+y+c)/18446744073709551616))],H,[],[])
   else if Nat.beq f fs=true then some (.tup [.d (.int .u64 ((x-y-c)%18446744073709551616)),.d (.int .u64 (if x<y+c then 1 else 0))],H,[],[])
   else none)
  else none
 | _=>none
def tblP (P:Program) (f:FuncId):Option (C×List RV×Nat):=match fnOf P f with
 | some (c,rs,nt,false)=>some (c,rs,nt)
 | _=>none
theorem o_nh {P:Program}:∀f c rs nt,tblP P f=some (c,rs,nt)→fnOf P f=some (c,rs,nt,false):=fun f c rs nt h=>by
 unfold tblP at h
 split at h
 ·rename_i c' rs' nt' h1;cases h;exact h1
 ·cases h
def mtL:List (TypeId×String×FuncId)→TypeId→String→Option FuncId
 | [],_,_=>none
 | (t,n,g)::l,t2,n2=>if t=t2 then (if n=n2 then some g else mtL l t2 n2) else mtL l t2 n2
theorem o_ni {P:Program}:∀{l:List (TypeId×String×FuncId)},(∀e∈l,MethOK P e.1 e.2.1 e.2.2)→∀t n g,mtL l t n=some g→MethOK P t n g
 | [],_,t,n,g,h=>by cases h
 | (t1,n1,g1)::l,hl,t,n,g,h=>by
  simp only [mtL] at h
  split at h
  ·split at h
   ·rename_i h1 h2;cases h;subst h1;subst h2;exact hl _ (List.mem_cons_self ..)
   ·exact o_ni (fun e he=>hl e (List.mem_cons_of_mem _ he)) t n g h
  ·exact o_ni (fun e he=>hl e (List.mem_cons_of_mem _ he)) t n g h
theorem Eqn.ev {P:Program} {fz:FuncId→Bool} {ml:List (TypeId×String×FuncId)} {orc:FuncId→List V→List (Option Ob)→Option R4} {fuel n d:Nat} {f:FuncId} {args:List V} {Hs:List Ob} {X:V} {Hs':List Ob} {dead:List Nat}
  (hmix:P.follows .mixedOrders=true) (horc:∀f args H r,orc f args H=some r→∀K,R4.then r K→CallS P f args H K) (hml:∀e∈ml,MethOK P e.1 e.2.1 e.2.2)
  (h:evF (tblP P) fz (evCl (tblP P) fz orc (mtL ml) fuel d) (mtL ml) n f args Hs=some (X,Hs',dead)):EqnD P f args Hs X Hs' dead :=
 o_ne hmix o_nh (o_ng hmix o_nh horc (o_ni hml) d) (o_ni hml) h
end
section
open Go.RowKit
theorem o_nj:∀f args H r,orcB o_9i o_9z o_a1 f args H=some r→∀K,R4.then r K→CallS Tryz.prog f args H K:=by
 intro f args H r h K hK
 unfold orcB at h
 have hcl:∀x:V,Sub1 x (.d (.sl 0 []))→f=o_a1→K (.d (.sl 0 [])) H [] []→CallS Tryz.prog f [x] H K:=fun x hx hf hK=>by
  subst hf
  exact CallS.pure (o_f6 0 [] rfl (by omega)) (o_6a _) rfl (fun _=>rfl) (fun m vs h=>by obtain ⟨v,r,e,h1,h2⟩:=V.reps_cons'.1 h;exact e▸V.reps_cons.2 ⟨hx m v h1,h2⟩) hK
 split at h
 ·split at h
  ·rename_i hf;cases h;exact hcl _ Sub1.sl0 (Nat.eq_of_beq_eq_true hf) hK
  ·cases h
 ·split at h
  ·rename_i hf;cases h;exact hcl _ (fun _ _ h=>h) (Nat.eq_of_beq_eq_true hf) hK
  ·cases h
 rotate_left
 ·cases h
 rename_i x y c
 split at h
 rotate_left
 ·cases h
 rename_i hb
 obtain ⟨x0,x1,y0,y1,c0,c1⟩:=hb
 obtain ⟨a,rfl⟩:=Int.eq_ofNat_of_zero_le x0
 obtain ⟨b,rfl⟩:=Int.eq_ofNat_of_zero_le y0
 obtain ⟨d,rfl⟩:=Int.eq_ofNat_of_zero_le c0
 split at h
 ·rename_i hf
  have hf:=Nat.eq_of_beq_eq_true hf
  subst hf
  cases h
  refine CallS.pure (o_fc a b d ((a+b+d)%18446744073709551616) ((a+b+d)/18446744073709551616) (by omega) (by omega) (by omega) (by omega) (by omega)) (o_fm _ _) rfl (fun _=>rfl) (Subs.refl _) ?_
  have e1:(((a+b+d)%18446744073709551616:Nat):Int)=((a:Int)+b+d)%18446744073709551616:=by omega
  have e2:(((a+b+d)/18446744073709551616:Nat):Int)=((a:Int)+b+d)/18446744073709551616:=by omega
  rw [e1,e2];exact hK
 split at h
 ·rename_i hf
  have hf:=Nat.eq_of_beq_eq_true hf
  subst hf
  cases h
  refine CallS.pure (o_fd a b d ((a+18446744073709551616*(if a<b+d then 1 else 0))-(b+d)) (if a<b+d then 1 else 0) (by omega) (by omega) (by omega) (by split<;>omega) (by split<;>omega)) (o_fm _ _) rfl (fun _=>rfl) (Subs.refl _) ?_
  have e1:(((a+18446744073709551616*(if a<b+d then 1 else 0))-(b+d):Nat):Int)=((a:Int)-b-d)%18446744073709551616:=by split<;>omega
  have e2:(((if a<b+d then 1 else 0:Nat)):Int)=if (a:Int)<b+d then 1 else 0:=by split<;>split<;>omega
  rw [e1,e2];exact hK
 ·cases h
end
section
open Go.RowKit
def renIB:Go.Shelf.Ren:=⟨fun | 137=>94 | 217=>166 | 266=>269 | n=>n,fun | 9=>9 | 5=>5 | 3=>3 | n=>n,fun n=>n⟩
theorem layIB:Go.Proofs.Lays.n137 Tryz.prog renIB where
 mixed:=by kernel_rfl
 f137:=Tryz.func94.trans (congrArg some (by kernel_rfl))
 f217:=Tryz.func166.trans (congrArg some (by kernel_rfl))
 f266:=Tryz.func269.trans (congrArg some (by kernel_rfl))
 t3:=Tryz.underlying3
 a3:=Tryz.isAgg3
 z3:=Tryz.sizeOf3
 v3:=Tryz.zeroValue3
 t5:=Tryz.underlying5
 a5:=Tryz.isAgg5
 z5:=Tryz.sizeOf5
 v5:=Tryz.zeroValue5
 t9:=Tryz.underlying9
 a9:=Tryz.isAgg9
 z9:=Tryz.sizeOf9
 v9:=Tryz.zeroValue9
def renJn:Go.Shelf.Ren:=⟨fun | 156=>18 | 165=>41 | 166=>42 | 169=>26 | 240=>68 | 241=>69 | 276=>105 | 277=>106 | n=>n,fun | 31=>57 | 9=>9 | 3=>3 | 4=>4 | 0=>0 | 20=>20 | 72=>65 | 76=>93 | 70=>63 | 37=>26 | 75=>92 | 127=>116 | 164=>174 | 5=>5 | 80=>55 | n=>n,fun n=>n⟩
theorem layJn:Go.Proofs.Lays.n156 Tryz.prog renJn where
 mixed:=by kernel_rfl
 f156:=Tryz.func18.trans (congrArg some (by kernel_rfl))
 f165:=Tryz.func41.trans (congrArg some (by kernel_rfl))
 f166:=Tryz.func42.trans (congrArg some (by kernel_rfl))
 f169:=Tryz.func26.trans (congrArg some (by kernel_rfl))
 f240:=Tryz.func68.trans (congrArg some (by kernel_rfl))
 f241:=Tryz.func69.trans (congrArg some (by kernel_rfl))
 f276:=Tryz.func105.trans (congrArg some (by kernel_rfl))
 f277:=Tryz.func106.trans (congrArg some (by kernel_rfl))
 t0:=Tryz.underlying0
 a0:=Tryz.isAgg0
 z0:=Tryz.sizeOf0
 v0:=Tryz.zeroValue0
 t3:=Tryz.underlying3
 a3:=Tryz.isAgg3
 z3:=Tryz.sizeOf3
 v3:=Tryz.zeroValue3
 t4:=Tryz.underlying4
 a4:=Tryz.isAgg4
 z4:=Tryz.sizeOf4
 v4:=Tryz.zeroValue4
 t9:=Tryz.underlying9
 a9:=Tryz.isAgg9
 z9:=Tryz.sizeOf9
 v9:=Tryz.zeroValue9
 t20:=Tryz.underlying20
 a20:=Tryz.isAgg20
 z20:=Tryz.sizeOf20
 v20:=Tryz.zeroValue20
 t31:=Tryz.underlying57
 a31:=Tryz.isAgg57
 z31:=Tryz.sizeOf57
 v31:=Tryz.zeroValue57
 t37:=Tryz.underlying26
 a37:=Tryz.isAgg26
 z37:=Tryz.sizeOf26
 v37:=Tryz.zeroValue26
 t70:=Tryz.underlying63
 a70:=Tryz.isAgg63
 z70:=Tryz.sizeOf63
 v70:=Tryz.zeroValue63
 t72:=Tryz.underlying65
 a72:=Tryz.isAgg65
 z72:=Tryz.sizeOf65
 v72:=Tryz.zeroValue65
 t75:=Tryz.underlying92
 a75:=Tryz.isAgg92
 z75:=Tryz.sizeOf92
 v75:=Tryz.zeroValue92
 t76:=Tryz.underlying93
 a76:=Tryz.isAgg93
 z76:=Tryz.sizeOf93
 v76:=Tryz.zeroValue93
 t127:=Tryz.underlying116
 a127:=Tryz.isAgg116
 z127:=Tryz.sizeOf116
 v127:=Tryz.zeroValue116
 t164:=Tryz.underlying174
 a164:=Tryz.isAgg174
 z164:=Tryz.sizeOf174
 v164:=Tryz.zeroValue174
def renTr:Go.Shelf.Ren:=⟨fun | 160=>93 | 232=>160 | 231=>159 | 227=>161 | 234=>163 | 233=>162 | 236=>165 | 235=>164 | 228=>266 | 271=>268 | 151=>267 | 197=>152 | 120=>334 | 152=>333 | 260=>255 | 137=>94 | 119=>371 | 224=>257 | 225=>256 | 217=>166 | 266=>269 | n=>n,fun | 9=>9 | 4=>4 | 3=>3 | 5=>5 | 117=>248 | 116=>247 | 0=>0 | 124=>251 | 21=>21 | 105=>241 | 46=>96 | 119=>412 | 139=>415 | 138=>414 | n=>n,fun | 3=>4 | 4=>5 | n=>n⟩
theorem layTr:Go.Proofs.Lays.n160 Tryz.prog renTr where
 mixed:=by kernel_rfl
 f119:=Tryz.func371.trans (congrArg some (by kernel_rfl))
 f120:=Tryz.func334.trans (congrArg some (by kernel_rfl))
 f137:=Tryz.func94.trans (congrArg some (by kernel_rfl))
 f151:=Tryz.func267.trans (congrArg some (by kernel_rfl))
 f152:=Tryz.func333.trans (congrArg some (by kernel_rfl))
 f160:=Tryz.func93.trans (congrArg some (by kernel_rfl))
 f197:=Tryz.func152.trans (congrArg some (by kernel_rfl))
 f217:=Tryz.func166.trans (congrArg some (by kernel_rfl))
 f224:=Tryz.func257.trans (congrArg some (by kernel_rfl))
 f225:=Tryz.func256.trans (congrArg some (by kernel_rfl))
 f227:=Tryz.func161.trans (congrArg some (by kernel_rfl))
 f228:=Tryz.func266.trans (congrArg some (by kernel_rfl))
 f231:=Tryz.func159.trans (congrArg some (by kernel_rfl))
 f232:=Tryz.func160.trans (congrArg some (by kernel_rfl))
 f233:=Tryz.func162.trans (congrArg some (by kernel_rfl))
 f234:=Tryz.func163.trans (congrArg some (by kernel_rfl))
 f235:=Tryz.func164.trans (congrArg some (by kernel_rfl))
 f236:=Tryz.func165.trans (congrArg some (by kernel_rfl))
 f260:=Tryz.func255.trans (congrArg some (by kernel_rfl))
 f266:=Tryz.func269.trans (congrArg some (by kernel_rfl))
 f271:=Tryz.func268.trans (congrArg some (by kernel_rfl))
 t0:=Tryz.underlying0
 a0:=Tryz.isAgg0
 z0:=Tryz.sizeOf0
 v0:=Tryz.zeroValue0
 t3:=Tryz.underlying3
 a3:=Tryz.isAgg3
 z3:=Tryz.sizeOf3
 v3:=Tryz.zeroValue3
 t4:=Tryz.underlying4
 a4:=Tryz.isAgg4
 z4:=Tryz.sizeOf4
 v4:=Tryz.zeroValue4
 t5:=Tryz.underlying5
 a5:=Tryz.isAgg5
 z5:=Tryz.sizeOf5
 v5:=Tryz.zeroValue5
 t9:=Tryz.underlying9
 a9:=Tryz.isAgg9
 z9:=Tryz.sizeOf9
 v9:=Tryz.zeroValue9
 t21:=Tryz.underlying21
 a21:=Tryz.isAgg21
 z21:=Tryz.sizeOf21
 v21:=Tryz.zeroValue21
 t46:=Tryz.underlying96
 a46:=Tryz.isAgg96
 z46:=Tryz.sizeOf96
 v46:=Tryz.zeroValue96
 t105:=Tryz.underlying241
 a105:=Tryz.isAgg241
 z105:=Tryz.sizeOf241
 v105:=Tryz.zeroValue241
 t116:=Tryz.underlying247
 a116:=Tryz.isAgg247
 z116:=Tryz.sizeOf247
 t117:=Tryz.underlying248
 a117:=Tryz.isAgg248
 z117:=Tryz.sizeOf248
 v117:=Tryz.zeroValue248
 t119:=Tryz.underlying412
 a119:=Tryz.isAgg412
 z119:=Tryz.sizeOf412
 t124:=Tryz.underlying251
 a124:=Tryz.isAgg251
 z124:=Tryz.sizeOf251
 v124:=Tryz.zeroValue251
 t138:=Tryz.underlying414
 a138:=Tryz.isAgg414
 z138:=Tryz.sizeOf414
 v138:=Tryz.zeroValue414
 t139:=Tryz.underlying415
 a139:=Tryz.isAgg415
 z139:=Tryz.sizeOf415
 v139:=Tryz.zeroValue415
 g3:=by kernel_rfl
 g4:=by kernel_rfl
def renCn:Go.Shelf.Ren:=⟨fun | 138=>84 | 195=>151 | 218=>153 | 143=>85 | 219=>154 | 217=>166 | 225=>256 | 224=>257 | 267=>258 | 266=>269 | 314=>330 | n=>n,fun | 9=>9 | 3=>3 | 4=>4 | 5=>5 | 0=>0 | 46=>96 | 146=>258 | 51=>255 | n=>n,fun | 1=>3 | n=>n⟩
theorem layCn:Go.Proofs.Lays.n138 Tryz.prog renCn where
 mixed:=by kernel_rfl
 f138:=Tryz.func84.trans (congrArg some (by kernel_rfl))
 f143:=Tryz.func85.trans (congrArg some (by kernel_rfl))
 f195:=Tryz.func151.trans (congrArg some (by kernel_rfl))
 f217:=Tryz.func166.trans (congrArg some (by kernel_rfl))
 f218:=Tryz.func153.trans (congrArg some (by kernel_rfl))
 f219:=Tryz.func154.trans (congrArg some (by kernel_rfl))
 f224:=Tryz.func257.trans (congrArg some (by kernel_rfl))
 f225:=Tryz.func256.trans (congrArg some (by kernel_rfl))
 f266:=Tryz.func269.trans (congrArg some (by kernel_rfl))
 f267:=Tryz.func258.trans (congrArg some (by kernel_rfl))
 f314:=Tryz.func330.trans (congrArg some (by kernel_rfl))
 t0:=Tryz.underlying0
 a0:=Tryz.isAgg0
 z0:=Tryz.sizeOf0
 v0:=Tryz.zeroValue0
 t3:=Tryz.underlying3
 a3:=Tryz.isAgg3
 z3:=Tryz.sizeOf3
 v3:=Tryz.zeroValue3
 t4:=Tryz.underlying4
 a4:=Tryz.isAgg4
 z4:=Tryz.sizeOf4
 v4:=Tryz.zeroValue4
 t5:=Tryz.underlying5
 a5:=Tryz.isAgg5
 z5:=Tryz.sizeOf5
 v5:=Tryz.zeroValue5
 t9:=Tryz.underlying9
 a9:=Tryz.isAgg9
 z9:=Tryz.sizeOf9
 v9:=Tryz.zeroValue9
 t46:=Tryz.underlying96
 a46:=Tryz.isAgg96
 z46:=Tryz.sizeOf96
 v46:=Tryz.zeroValue96
 t51:=Tryz.underlying255
 a51:=Tryz.isAgg255
 z51:=Tryz.sizeOf255
 v51:=Tryz.zeroValue255
 t146:=Tryz.underlying258
 a146:=Tryz.isAgg258
 z146:=Tryz.sizeOf258
 v146:=Tryz.zeroValue258
 g1:=by kernel_rfl
def renIx:Go.Shelf.Ren:=⟨fun | 143=>85 | 219=>154 | 217=>166 | 225=>256 | 224=>257 | 267=>258 | 266=>269 | 314=>330 | n=>n,fun | 9=>9 | 3=>3 | 4=>4 | 5=>5 | 46=>96 | 146=>258 | 51=>255 | n=>n,fun | 1=>3 | n=>n⟩
theorem layIx:Go.Proofs.Lays.n143 Tryz.prog renIx where
 mixed:=by kernel_rfl
 f143:=Tryz.func85.trans (congrArg some (by kernel_rfl))
 f217:=Tryz.func166.trans (congrArg some (by kernel_rfl))
 f219:=Tryz.func154.trans (congrArg some (by kernel_rfl))
 f224:=Tryz.func257.trans (congrArg some (by kernel_rfl))
 f225:=Tryz.func256.trans (congrArg some (by kernel_rfl))
 f266:=Tryz.func269.trans (congrArg some (by kernel_rfl))
 f267:=Tryz.func258.trans (congrArg some (by kernel_rfl))
 f314:=Tryz.func330.trans (congrArg some (by kernel_rfl))
 t3:=Tryz.underlying3
 a3:=Tryz.isAgg3
 z3:=Tryz.sizeOf3
 v3:=Tryz.zeroValue3
 t4:=Tryz.underlying4
 a4:=Tryz.isAgg4
 z4:=Tryz.sizeOf4
 v4:=Tryz.zeroValue4
 t5:=Tryz.underlying5
 a5:=Tryz.isAgg5
 z5:=Tryz.sizeOf5
 v5:=Tryz.zeroValue5
 t9:=Tryz.underlying9
 a9:=Tryz.isAgg9
 z9:=Tryz.sizeOf9
 v9:=Tryz.zeroValue9
 t46:=Tryz.underlying96
 a46:=Tryz.isAgg96
 z46:=Tryz.sizeOf96
 v46:=Tryz.zeroValue96
 t51:=Tryz.underlying255
 a51:=Tryz.isAgg255
 z51:=Tryz.sizeOf255
 v51:=Tryz.zeroValue255
 t146:=Tryz.underlying258
 a146:=Tryz.isAgg258
 z146:=Tryz.sizeOf258
 v146:=Tryz.zeroValue258
 g1:=by kernel_rfl
def renAt:Go.Shelf.Ren:=⟨fun | 172=>92 | 244=>158 | 245=>157 | 247=>265 | 279=>261 | 280=>262 | 281=>263 | 282=>264 | 287=>156 | 316=>331 | 171=>16 | 205=>332 | 321=>259 | 322=>260 | 243=>36 | 246=>62 | 283=>96 | 284=>97 | 285=>98 | 286=>99 | 129=>168 | 317=>167 | 318=>169 | 319=>170 | 320=>171 | 337=>270 | 338=>271 | n=>n,fun | 9=>9 | 3=>3 | 75=>92 | 76=>93 | 4=>4 | 5=>5 | 167=>353 | 37=>26 | 0=>0 | 85=>358 | 2=>2 | 168=>355 | 53=>24 | 175=>159 | 46=>96 | 210=>419 | 127=>116 | 145=>456 | 143=>454 | 21=>21 | 171=>163 | 173=>166 | 212=>254 | 51=>255 | 20=>20 | 213=>256 | 232=>422 | 233=>423 | 80=>55 | n=>n,fun | 15=>6 | 16=>7 | 17=>0 | 18=>8 | 19=>9 | n=>n⟩
theorem layAt:Go.Proofs.LaysC.n172 Tryz.prog renAt where
 mixed:=by kernel_rfl
 f129:=Tryz.func168.trans (congrArg some (by kernel_rfl))
 f171:=Tryz.func16.trans (congrArg some (by kernel_rfl))
 f172:=Tryz.func92.trans (congrArg some (by kernel_rfl))
 f205:=Tryz.func332.trans (congrArg some (by kernel_rfl))
 f243:=Tryz.func36.trans (congrArg some (by kernel_rfl))
 f244:=Tryz.func158.trans (congrArg some (by kernel_rfl))
 f245:=Tryz.func157.trans (congrArg some (by kernel_rfl))
 f246:=Tryz.func62.trans (congrArg some (by kernel_rfl))
 f247:=Tryz.func265.trans (congrArg some (by kernel_rfl))
 f279:=Tryz.func261.trans (congrArg some (by kernel_rfl))
 f280:=Tryz.func262.trans (congrArg some (by kernel_rfl))
 f281:=Tryz.func263.trans (congrArg some (by kernel_rfl))
 f282:=Tryz.func264.trans (congrArg some (by kernel_rfl))
 f283:=Tryz.func96.trans (congrArg some (by kernel_rfl))
 f284:=Tryz.func97.trans (congrArg some (by kernel_rfl))
 f285:=Tryz.func98.trans (congrArg some (by kernel_rfl))
 f286:=Tryz.func99.trans (congrArg some (by kernel_rfl))
 f287:=Tryz.func156.trans (congrArg some (by kernel_rfl))
 f316:=Tryz.func331.trans (congrArg some (by kernel_rfl))
 f317:=Tryz.func167.trans (congrArg some (by kernel_rfl))
 f318:=Tryz.func169.trans (congrArg some (by kernel_rfl))
 f319:=Tryz.func170.trans (congrArg some (by kernel_rfl))
 f320:=Tryz.func171.trans (congrArg some (by kernel_rfl))
 f321:=Tryz.func259.trans (congrArg some (by kernel_rfl))
 f322:=Tryz.func260.trans (congrArg some (by kernel_rfl))
 f337:=Tryz.func270.trans (congrArg some (by kernel_rfl))
 f338:=Tryz.func271.trans (congrArg some (by kernel_rfl))
 t0:=Tryz.underlying0
 a0:=Tryz.isAgg0
 z0:=Tryz.sizeOf0
 v0:=Tryz.zeroValue0
 t2:=Tryz.underlying2
 a2:=Tryz.isAgg2
 z2:=Tryz.sizeOf2
 v2:=Tryz.zeroValue2
 t3:=Tryz.underlying3
 a3:=Tryz.isAgg3
 z3:=Tryz.sizeOf3
 v3:=Tryz.zeroValue3
 t4:=Tryz.underlying4
 a4:=Tryz.isAgg4
 z4:=Tryz.sizeOf4
 v4:=Tryz.zeroValue4
 t5:=Tryz.underlying5
 a5:=Tryz.isAgg5
 z5:=Tryz.sizeOf5
 v5:=Tryz.zeroValue5
 t9:=Tryz.underlying9
 a9:=Tryz.isAgg9
 z9:=Tryz.sizeOf9
 v9:=Tryz.zeroValue9
 t20:=Tryz.underlying20
 a20:=Tryz.isAgg20
 z20:=Tryz.sizeOf20
 v20:=Tryz.zeroValue20
 t21:=Tryz.underlying21
 a21:=Tryz.isAgg21
 z21:=Tryz.sizeOf21
 v21:=Tryz.zeroValue21
 t37:=Tryz.underlying26
 a37:=Tryz.isAgg26
 z37:=Tryz.sizeOf26
 v37:=Tryz.zeroValue26
 t46:=Tryz.underlying96
 a46:=Tryz.isAgg96
 z46:=Tryz.sizeOf96
 v46:=Tryz.zeroValue96
 t51:=Tryz.underlying255
 a51:=Tryz.isAgg255
 z51:=Tryz.sizeOf255
 v51:=Tryz.zeroValue255
 t53:=Tryz.underlying24
 a53:=Tryz.isAgg24
 z53:=Tryz.sizeOf24
 v53:=Tryz.zeroValue24
 t75:=Tryz.underlying92
 a75:=Tryz.isAgg92
 z75:=Tryz.sizeOf92
 v75:=Tryz.zeroValue92
 t76:=Tryz.underlying93
 a76:=Tryz.isAgg93
 z76:=Tryz.sizeOf93
 v76:=Tryz.zeroValue93
 t85:=Tryz.underlying358
 a85:=Tryz.isAgg358
 z85:=Tryz.sizeOf358
 v85:=Tryz.zeroValue358
 t127:=Tryz.underlying116
 a127:=Tryz.isAgg116
 z127:=Tryz.sizeOf116
 v127:=Tryz.zeroValue116
 t143:=Tryz.underlying454
 a143:=Tryz.isAgg454
 z143:=Tryz.sizeOf454
 v143:=Tryz.zeroValue454
 t145:=Tryz.underlying456
 a145:=Tryz.isAgg456
 z145:=Tryz.sizeOf456
 v145:=Tryz.zeroValue456
 t167:=Tryz.underlying353
 a167:=Tryz.isAgg353
 z167:=Tryz.sizeOf353
 v167:=Tryz.zeroValue353
 t168:=Tryz.underlying355
 a168:=Tryz.isAgg355
 z168:=Tryz.sizeOf355
 v168:=Tryz.zeroValue355
 t171:=Tryz.underlying163
 a171:=Tryz.isAgg163
 z171:=Tryz.sizeOf163
 v171:=Tryz.zeroValue163
 t173:=Tryz.underlying166
 a173:=Tryz.isAgg166
 z173:=Tryz.sizeOf166
 v173:=Tryz.zeroValue166
 t175:=Tryz.underlying159
 a175:=Tryz.isAgg159
 z175:=Tryz.sizeOf159
 v175:=Tryz.zeroValue159
 t210:=Tryz.underlying419
 a210:=Tryz.isAgg419
 z210:=Tryz.sizeOf419
 v210:=Tryz.zeroValue419
 t212:=Tryz.underlying254
 a212:=Tryz.isAgg254
 z212:=Tryz.sizeOf254
 v212:=Tryz.zeroValue254
 t213:=Tryz.underlying256
 a213:=Tryz.isAgg256
 z213:=Tryz.sizeOf256
 t232:=Tryz.underlying422
 a232:=Tryz.isAgg422
 z232:=Tryz.sizeOf422
 v232:=Tryz.zeroValue422
 t233:=Tryz.underlying423
 a233:=Tryz.isAgg423
 z233:=Tryz.sizeOf423
 v233:=Tryz.zeroValue423
 g15:=by kernel_rfl
 g16:=by kernel_rfl
 g17:=by kernel_rfl
 g18:=by kernel_rfl
 g19:=by kernel_rfl
 t80:=Tryz.underlying55
 a80:=Tryz.isAgg55
 z80:=Tryz.sizeOf55
 v80:=Tryz.zeroValue55
 i0:=by kernel_rfl
 i2:=by kernel_rfl
 i3:=by kernel_rfl
 i4:=by kernel_rfl
 i5:=by kernel_rfl
 i9:=by kernel_rfl
 i20:=by kernel_rfl
 i21:=by kernel_rfl
 i37:=by kernel_rfl
 i46:=by kernel_rfl
 i51:=by kernel_rfl
 i53:=by kernel_rfl
 i75:=by kernel_rfl
 i76:=by kernel_rfl
 i80:=by kernel_rfl
 i85:=by kernel_rfl
 i127:=by kernel_rfl
 i143:=by kernel_rfl
 i145:=by kernel_rfl
 i167:=by kernel_rfl
 i168:=by kernel_rfl
 i171:=by kernel_rfl
 i173:=by kernel_rfl
 i175:=by kernel_rfl
 i210:=by kernel_rfl
 i212:=by kernel_rfl
 i232:=by kernel_rfl
 i233:=by kernel_rfl
 m15:=by kernel_rfl
 m16:=by kernel_rfl
 m17:=by kernel_rfl
 m18:=by kernel_rfl
 m19:=by kernel_rfl
 c0:=by kernel_rfl
 c2:=by kernel_rfl
 c3:=by kernel_rfl
 c4:=by kernel_rfl
 c5:=by kernel_rfl
 c9:=by kernel_rfl
 c20:=by kernel_rfl
 c21:=by kernel_rfl
 c37:=by kernel_rfl
 c46:=by kernel_rfl
 c51:=by kernel_rfl
 c53:=by kernel_rfl
 c75:=by kernel_rfl
 c76:=by kernel_rfl
 c80:=by kernel_rfl
 c85:=by kernel_rfl
 c127:=by kernel_rfl
 c143:=by kernel_rfl
 c145:=by kernel_rfl
 c167:=by kernel_rfl
 c168:=by kernel_rfl
 c171:=by kernel_rfl
 c173:=by kernel_rfl
 c175:=by kernel_rfl
 c210:=by kernel_rfl
 c212:=by kernel_rfl
 c213:=by kernel_rfl
 c232:=by kernel_rfl
 c233:=by kernel_rfl
def renPu:Go.Shelf.Ren:=⟨fun | 14=>91 | 16=>156 | 17=>157 | 19=>259 | 20=>260 | 21=>261 | 22=>262 | 23=>263 | 24=>264 | 25=>331 | 27=>16 | 26=>332 | 28=>36 | 29=>62 | 30=>96 | 31=>97 | 32=>98 | 33=>99 | 35=>168 | 34=>167 | 36=>169 | 37=>170 | 38=>171 | 39=>270 | 40=>271 | n=>n,fun | 9=>9 | 3=>3 | 22=>24 | 24=>92 | 25=>159 | 4=>4 | 34=>353 | 5=>5 | 36=>96 | 37=>26 | 0=>0 | 39=>355 | 21=>21 | 44=>419 | 47=>116 | 50=>456 | 48=>454 | 2=>2 | 52=>163 | 55=>166 | 59=>254 | 60=>255 | 20=>20 | 61=>256 | 65=>422 | 66=>423 | 67=>55 | n=>n,fun | 0=>6 | 1=>7 | 2=>0 | 3=>8 | 4=>9 | n=>n⟩
theorem layPu:Go.Proofs.LaysPu.n14 Tryz.prog renPu where
 mixed:=by kernel_rfl
 f14:=Tryz.func91.trans (congrArg some (by kernel_rfl))
 f16:=Tryz.func156.trans (congrArg some (by kernel_rfl))
 f17:=Tryz.func157.trans (congrArg some (by kernel_rfl))
 f19:=Tryz.func259.trans (congrArg some (by kernel_rfl))
 f20:=Tryz.func260.trans (congrArg some (by kernel_rfl))
 f21:=Tryz.func261.trans (congrArg some (by kernel_rfl))
 f22:=Tryz.func262.trans (congrArg some (by kernel_rfl))
 f23:=Tryz.func263.trans (congrArg some (by kernel_rfl))
 f24:=Tryz.func264.trans (congrArg some (by kernel_rfl))
 f25:=Tryz.func331.trans (congrArg some (by kernel_rfl))
 f26:=Tryz.func332.trans (congrArg some (by kernel_rfl))
 f27:=Tryz.func16.trans (congrArg some (by kernel_rfl))
 f28:=Tryz.func36.trans (congrArg some (by kernel_rfl))
 f29:=Tryz.func62.trans (congrArg some (by kernel_rfl))
 f30:=Tryz.func96.trans (congrArg some (by kernel_rfl))
 f31:=Tryz.func97.trans (congrArg some (by kernel_rfl))
 f32:=Tryz.func98.trans (congrArg some (by kernel_rfl))
 f33:=Tryz.func99.trans (congrArg some (by kernel_rfl))
 f34:=Tryz.func167.trans (congrArg some (by kernel_rfl))
 f35:=Tryz.func168.trans (congrArg some (by kernel_rfl))
 f36:=Tryz.func169.trans (congrArg some (by kernel_rfl))
 f37:=Tryz.func170.trans (congrArg some (by kernel_rfl))
 f38:=Tryz.func171.trans (congrArg some (by kernel_rfl))
 f39:=Tryz.func270.trans (congrArg some (by kernel_rfl))
 f40:=Tryz.func271.trans (congrArg some (by kernel_rfl))
 t0:=Tryz.underlying0
 a0:=Tryz.isAgg0
 z0:=Tryz.sizeOf0
 v0:=Tryz.zeroValue0
 i0:=by kernel_rfl
 t2:=Tryz.underlying2
 a2:=Tryz.isAgg2
 z2:=Tryz.sizeOf2
 v2:=Tryz.zeroValue2
 i2:=by kernel_rfl
 t3:=Tryz.underlying3
 a3:=Tryz.isAgg3
 z3:=Tryz.sizeOf3
 v3:=Tryz.zeroValue3
 i3:=by kernel_rfl
 t4:=Tryz.underlying4
 a4:=Tryz.isAgg4
 z4:=Tryz.sizeOf4
 v4:=Tryz.zeroValue4
 i4:=by kernel_rfl
 t5:=Tryz.underlying5
 a5:=Tryz.isAgg5
 z5:=Tryz.sizeOf5
 v5:=Tryz.zeroValue5
 i5:=by kernel_rfl
 t9:=Tryz.underlying9
 a9:=Tryz.isAgg9
 z9:=Tryz.sizeOf9
 v9:=Tryz.zeroValue9
 i9:=by kernel_rfl
 t20:=Tryz.underlying20
 a20:=Tryz.isAgg20
 z20:=Tryz.sizeOf20
 v20:=Tryz.zeroValue20
 i20:=by kernel_rfl
 t21:=Tryz.underlying21
 a21:=Tryz.isAgg21
 z21:=Tryz.sizeOf21
 v21:=Tryz.zeroValue21
 i21:=by kernel_rfl
 t22:=Tryz.underlying24
 a22:=Tryz.isAgg24
 z22:=Tryz.sizeOf24
 v22:=Tryz.zeroValue24
 i22:=by kernel_rfl
 t24:=Tryz.underlying92
 a24:=Tryz.isAgg92
 z24:=Tryz.sizeOf92
 v24:=Tryz.zeroValue92
 i24:=by kernel_rfl
 t25:=Tryz.underlying159
 a25:=Tryz.isAgg159
 z25:=Tryz.sizeOf159
 v25:=Tryz.zeroValue159
 i25:=by kernel_rfl
 t34:=Tryz.underlying353
 a34:=Tryz.isAgg353
 z34:=Tryz.sizeOf353
 v34:=Tryz.zeroValue353
 i34:=by kernel_rfl
 c34:=by kernel_rfl
 t36:=Tryz.underlying96
 a36:=Tryz.isAgg96
 z36:=Tryz.sizeOf96
 v36:=Tryz.zeroValue96
 i36:=by kernel_rfl
 t37:=Tryz.underlying26
 a37:=Tryz.isAgg26
 z37:=Tryz.sizeOf26
 v37:=Tryz.zeroValue26
 i37:=by kernel_rfl
 t39:=Tryz.underlying355
 a39:=Tryz.isAgg355
 z39:=Tryz.sizeOf355
 v39:=Tryz.zeroValue355
 i39:=by kernel_rfl
 t44:=Tryz.underlying419
 a44:=Tryz.isAgg419
 z44:=Tryz.sizeOf419
 v44:=Tryz.zeroValue419
 i44:=by kernel_rfl
 t47:=Tryz.underlying116
 a47:=Tryz.isAgg116
 z47:=Tryz.sizeOf116
 v47:=Tryz.zeroValue116
 i47:=by kernel_rfl
 t48:=Tryz.underlying454
 a48:=Tryz.isAgg454
 z48:=Tryz.sizeOf454
 v48:=Tryz.zeroValue454
 i48:=by kernel_rfl
 t50:=Tryz.underlying456
 a50:=Tryz.isAgg456
 z50:=Tryz.sizeOf456
 v50:=Tryz.zeroValue456
 i50:=by kernel_rfl
 t52:=Tryz.underlying163
 a52:=Tryz.isAgg163
 z52:=Tryz.sizeOf163
 v52:=Tryz.zeroValue163
 i52:=by kernel_rfl
 t55:=Tryz.underlying166
 a55:=Tryz.isAgg166
 z55:=Tryz.sizeOf166
 v55:=Tryz.zeroValue166
 i55:=by kernel_rfl
 t59:=Tryz.underlying254
 a59:=Tryz.isAgg254
 z59:=Tryz.sizeOf254
 v59:=Tryz.zeroValue254
 i59:=by kernel_rfl
 t60:=Tryz.underlying255
 a60:=Tryz.isAgg255
 z60:=Tryz.sizeOf255
 v60:=Tryz.zeroValue255
 i60:=by kernel_rfl
 t61:=Tryz.underlying256
 a61:=Tryz.isAgg256
 z61:=Tryz.sizeOf256
 t65:=Tryz.underlying422
 a65:=Tryz.isAgg422
 z65:=Tryz.sizeOf422
 v65:=Tryz.zeroValue422
 i65:=by kernel_rfl
 t66:=Tryz.underlying423
 a66:=Tryz.isAgg423
 z66:=Tryz.sizeOf423
 v66:=Tryz.zeroValue423
 i66:=by kernel_rfl
 t67:=Tryz.underlying55
 a67:=Tryz.isAgg55
 z67:=Tryz.sizeOf55
 v67:=Tryz.zeroValue55
 i67:=by kernel_rfl
 g0:=by kernel_rfl
 m0:=by kernel_rfl
 g1:=by kernel_rfl
 m1:=by kernel_rfl
 g2:=by kernel_rfl
 m2:=by kernel_rfl
 g3:=by kernel_rfl
 m3:=by kernel_rfl
 g4:=by kernel_rfl
 m4:=by kernel_rfl
end
section
structure CmdM where
 op:Int
 h:Int
 o:Int
 i:Int
 n:Int
 key:Nat
 nums:List Int
 bytes:List Nat

def CmdM.zero:CmdM:=⟨0,0,0,0,0,0,[],[]⟩
def inR (v:Int):Prop:=-9223372036854775808≤v∧v≤9223372036854775807
structure CmdM.Good (c:CmdM):Prop where
 op:inR c.op
 h:inR c.h
 o:inR c.o
 i:inR c.i
 n:inR c.n
 key:c.key<18446744073709551616
 nums:∀v∈c.nums,inR v
 bytes:∀b∈c.bytes,b<256

def itoaN (v:Int):List Nat:=if v<0 then 45::decN v.natAbs else decN v.natAbs

def valN:List Nat→Nat→Nat
 | [],a=>a
 | c::l,a=>valN l (a*10+(c-48))
theorem o_nk:∀(l r:List Nat) (a:Nat),valN (l++r) a=valN r (valN l a)
 | [],_,_=>rfl
 | c::l,r,a=>by simp only [List.cons_append,valN];exact o_nk l r _
theorem o_nl:∀(w n a:Nat),valN (padN w n) a=a*10^w+n%10^w
 | 0,n,a=>by simp [padN,valN,Nat.mod_one]
 | w+1,n,a=>by
  rw [padN,o_nk,o_nl w]
  simp only [valN]
  have e:n%10^(w+1)=n/10%10^w*10+n%10:=by
   rw [Nat.pow_succ,Nat.mul_comm (10^w) 10,Nat.mod_mul];omega
  rw [e,Nat.pow_succ,Nat.add_mul,Nat.mul_assoc]
  omega
theorem o_nm (n:Nat):valN (decN n) 0=n:=by
 rw [decN,o_nl];simp [Nat.mod_eq_of_lt (o_gd n)]
theorem o_nn:∀(w n:Nat),∀c∈padN w n,48≤c∧c≤57
 | 0,_,c,h=>by simp [padN] at h
 | w+1,n,c,h=>by
  rw [padN,List.mem_append] at h
  rcases h with h | h
  ·exact o_nn w _ c h
  ·simp at h;omega
theorem o_no (n:Nat):∀c∈decN n,48≤c∧c≤57:=o_nn _ _
theorem o_np (n:Nat):decN n≠[]:=fun h=>by have:=o_gl n;have:=o_gc n;rw [h] at *;simp at *;omega
theorem o_nq {a b:Nat} (h:decN a=decN b):a=b:=by rw [←o_nm a,h,o_nm]
theorem o_nr (n:Nat) (c:Nat) (r:List Nat) (h:decN n=c::r):48≤c∧c≤57:=o_no n c (by rw [h];simp)
theorem o_ns {v w:Int} (h:itoaN v=itoaN w):v=w:=by
 unfold itoaN at h
 split at h<;>split at h
 ·have:=o_nq (List.cons.inj h).2;omega
 ·have:=o_nr w.natAbs 45 _ h.symm;omega
 ·have:=o_nr v.natAbs 45 _ h;omega
 ·have:=o_nq h;omega
theorem o_nt (v:Int):∀c∈itoaN v,45≤c∧c≤57:=by
 intro c h
 unfold itoaN at h
 split at h
 ·rcases List.mem_cons.1 h with h | h
  ·omega
  ·have:=o_no _ c h;omega
 ·have:=o_no _ c h;omega

open Classical in
noncomputable def readI (s:List Nat):Option Int:=if h:∃v,inR v∧itoaN v=s then some h.choose else none
open Classical in
noncomputable def readK (s:List Nat):Option Nat:=if h:∃u,u<18446744073709551616∧decN u=s then some h.choose else none
theorem o_nu {v:Int} (h:inR v):readI (itoaN v)=some v:=by
 have h':∃w,inR w∧itoaN w=itoaN v:=⟨v,h,rfl⟩
 unfold readI
 rw [dif_pos h']
 exact congrArg some (o_ns h'.choose_spec.2)
theorem o_nv {s:List Nat} {v:Int} (h:readI s=some v):inR v∧itoaN v=s:=by
 unfold readI at h
 split at h
 ·rename_i h';cases h;exact h'.choose_spec
 ·cases h
theorem o_nw {u:Nat} (h:u<18446744073709551616):readK (decN u)=some u:=by
 have h':∃w,w<18446744073709551616∧decN w=decN u:=⟨u,h,rfl⟩
 unfold readK
 rw [dif_pos h']
 exact congrArg some (o_nq h'.choose_spec.2)
theorem o_nx {s:List Nat} {u:Nat} (h:readK s=some u):u<18446744073709551616∧decN u=s:=by
 unfold readK at h
 split at h
 ·rename_i h';cases h;exact h'.choose_spec
 ·cases h

def wordT:List (List Nat):=[[],[110,101,119],[97,100,100],[117,112,100,97,116,101],[113,117,101,114,121],[109,101,114,103,101],[97,110,97,108,121,115,101],[101,110,99,111,100,101],[100,101,99,111,100,101],[100,114,111,112]]
def wordN (op:Int):List Nat:=if op<0 then [] else wordT.getD op.toNat []
def opK (s:List Nat):Nat→Nat
 | 0=>0
 | k+1=>if wordT.getD (9-k) []=s then 9-k else opK s k
def opN (s:List Nat):Nat:=opK s 9
theorem o_ny:∀k,k<10→opN (wordT.getD k [])=k:=by decide
theorem o_nz:∀s:List Nat,opN s≠0→wordT.getD (opN s) []=s∧opN s<10:=by
 intro s
 unfold opN
 have key:∀k,k≤9→opK s k≠0→wordT.getD (opK s k) []=s∧opK s k<10:=by
  intro k
  induction k with
  | zero=>intro _ h;exact absurd rfl h
  | succ k ih =>
   intro hk h
   rw [opK] at h ⊢
   split at h
   ·rename_i h1;rw [if_pos h1];exact ⟨h1,by omega⟩
   ·rename_i h1;rw [if_neg h1];exact ih (by omega) h
 exact key 9 (by omega)

inductive FldM where
 | h | o | i | n | key
 deriving DecidableEq
def fldsN:Nat→List FldM
 | 2=>[.h,.i,.n]
 | 3=>[.h,.key,.n]
 | 4=>[.h,.i,.key,.n]
 | 5=>[.h,.o]
 | 6=>[.h,.n,.i]
 | 7=>[.h]
 | 9=>[.h]
 | _=>[]
def getF (c:CmdM):FldM→List Nat
 | .h=>itoaN c.h
 | .o=>itoaN c.o
 | .i=>itoaN c.i
 | .n=>itoaN c.n
 | .key=>decN c.key
noncomputable def setF (c:CmdM) (s:List Nat):FldM→Option CmdM
 | .h=>(readI s).map fun v=>{ c with h:=v }
 | .o=>(readI s).map fun v=>{ c with o:=v }
 | .i=>(readI s).map fun v=>{ c with i:=v }
 | .n=>(readI s).map fun v=>{ c with n:=v }
 | .key=>(readK s).map fun v=>{ c with key:=v }

def dig (n:Nat):Nat:=if n<10 then 48+n else 87+n
def hexN (b:List Nat):List Nat:=b.flatMap fun x=>[dig (x/16),dig (x%16)]
def undig (c:Nat):Option Nat:=if 48≤c∧c≤57 then some (c-48) else if 97≤c∧c≤102 then some (c-87) else none
def unhexN:List Nat→Option (List Nat)
 | []=>some []
 | [_]=>none
 | a::b::r=>match undig a,undig b,unhexN r with
  | some x,some y,some l=>some ((x*16+y)::l)
  | _,_,_=>none
theorem o_o0:∀n,n<16→undig (dig n)=some n:=by decide
theorem o_o1 {c n:Nat} (h:undig c=some n):n<16∧dig n=c:=by
 unfold undig at h
 split at h
 ·cases h;unfold dig;refine ⟨by omega,?_⟩;rw [if_pos (by omega)];omega
 ·split at h
  ·cases h;unfold dig;refine ⟨by omega,?_⟩;rw [if_neg (by omega)];omega
  ·cases h
theorem o_o2:∀b:List Nat,(∀x∈b,x<256)→unhexN (hexN b)=some b
 | [],_=>rfl
 | x::r,h=>by
  have hx:=h x (by simp)
  show unhexN (dig (x/16)::dig (x%16)::hexN r)=_
  rw [unhexN,o_o0 _ (by omega),o_o0 _ (by omega),o_o2 r fun y hy=>h y (by simp [hy])]
  simp;omega
theorem o_o3:∀(s b:List Nat),unhexN s=some b→hexN b=s∧∀x∈b,x<256
 | [],b,h=>by cases h;exact ⟨rfl,by simp⟩
 | [_],b,h=>by cases h
 | a::c::r,b,h=>by
  rw [unhexN] at h
  split at h
  ·rename_i x y l h1 h2 h3
   cases h
   obtain ⟨i1,i2⟩:=o_o3 r l h3
   obtain ⟨j1,j2⟩:=o_o1 h1
   obtain ⟨k1,k2⟩:=o_o1 h2
   refine ⟨?_,?_⟩
   ·show dig ((x*16+y)/16)::dig ((x*16+y)%16)::hexN l=_
    rw [i1,show (x*16+y)/16=x by omega,show (x*16+y)%16=y by omega,j2,k2]
   ·intro z hz
    rcases List.mem_cons.1 hz with rfl | hz
    ·omega
    ·exact i2 z hz
  ·cases h

def textW (c:CmdM):List (List Nat) :=
 if wordN c.op=[] then [] else
 if c.op=1 then (if c.nums=[] then [] else wordN c.op::c.nums.map itoaN) else
 if c.op=8 then [wordN c.op,if c.bytes=[] then [45] else hexN c.bytes] else
 wordN c.op::(fldsN c.op.toNat).map (getF c)
def plainM (c:CmdM):CmdM :=
 if c.op=1 then { CmdM.zero with op:=1,nums:=c.nums } else
 if c.op=8 then { CmdM.zero with op:=8,bytes:=c.bytes } else
 let l:=fldsN c.op.toNat
 ⟨c.op,if .h∈l then c.h else 0,if .o∈l then c.o else 0,if .i∈l then c.i else 0,if .n∈l then c.n else 0,if .key∈l then c.key else 0,[],[]⟩

noncomputable def setsF:CmdM→List FldM→List (List Nat)→Option CmdM
 | c,[],[]=>some c
 | c,f::l,s::r=>(setF c s f).bind fun c'=>setsF c' l r
 | _,_,_=>none
noncomputable def readIs:List (List Nat)→Option (List Int)
 | []=>some []
 | s::r=>match readI s,readIs r with
  | some v,some l=>some (v::l)
  | _,_=>none
def parse8:List (List Nat)→Option CmdM
 | [s]=>if s=[45] then some { CmdM.zero with op:=8 } else if s=[] then none else (unhexN s).map fun b=>{ CmdM.zero with op:=8,bytes:=b }
 | _=>none
noncomputable def parseW:List (List Nat)→Option CmdM
 | []=>none
 | w::rest =>
  if opN w=0 then none else
  if opN w=1 then (if rest=[] then none else (readIs rest).map fun l=>{ CmdM.zero with op:=1,nums:=l }) else
  if opN w=8 then parse8 rest else
  setsF { CmdM.zero with op:=opN w } (fldsN (opN w)) rest

theorem o_o4:∀l:List Int,(∀v∈l,inR v)→readIs (l.map itoaN)=some l
 | [],_=>rfl
 | v::r,h=>by
  rw [List.map_cons,readIs,o_nu (h v (by simp)),o_o4 r fun x hx=>h x (by simp [hx])]
theorem o_o5:∀(s:List (List Nat)) (l:List Int),readIs s=some l→l.map itoaN=s∧∀v∈l,inR v
 | [],l,h=>by cases h;exact ⟨rfl,by simp⟩
 | s::r,l,h=>by
  rw [readIs] at h
  split at h
  ·rename_i v k h1 h2
   cases h
   obtain ⟨i1,i2⟩:=o_o5 r k h2
   obtain ⟨j1,j2⟩:=o_nv h1
   refine ⟨by rw [List.map_cons,i1,j2],?_⟩
   intro z hz
   rcases List.mem_cons.1 hz with rfl | hz
   ·exact j1
   ·exact i2 z hz
  ·cases h
theorem o_o6 {op:Int} (h:wordN op≠[]):∃k:Nat,op=k∧0<k∧k<10∧wordN op=wordT.getD k []:=by
 unfold wordN at h ⊢
 split at h
 ·exact absurd rfl h
 ·rename_i h0
  refine ⟨op.toNat,by omega,?_,?_,if_neg h0⟩
  ·rcases Nat.eq_zero_or_pos op.toNat with e | e
   ·rw [e] at h;exact absurd rfl h
   ·exact e
  ·rcases Nat.lt_or_ge op.toNat 10 with e | e
   ·exact e
   ·rw [List.getD_eq_getElem?_getD,List.getElem?_eq_none (by simp [wordT];omega)] at h;exact absurd rfl h
theorem o_o7 {b:List Nat} (h:b≠[]):hexN b≠[]∧hexN b≠[45]:=by
 cases b with
 | nil=>exact absurd rfl h
 | cons x r=>exact ⟨by simp [hexN],by simp [hexN]⟩
theorem o_o8 {c:CmdM} (g:c.Good) (h:textW c≠[]):parseW (textW c)=some (plainM c):=by
 unfold textW at h ⊢
 by_cases h1:wordN c.op=[]
 ·rw [if_pos h1] at h;exact absurd rfl h
 rw [if_neg h1] at h ⊢
 obtain ⟨k,hk,hk0,hk1,hw⟩:=o_o6 h1
 have ho:opN (wordN c.op)=k:=by rw [hw];exact o_ny k hk1
 have hkn:c.op.toNat=k:=by omega
 by_cases h2:c.op=1
 ·rw [if_pos h2] at h ⊢
  by_cases h3:c.nums=[]
  ·rw [if_pos h3] at h;exact absurd rfl h
  rw [if_neg h3,parseW,ho,if_neg (by omega),if_pos (by omega),if_neg (by simpa using h3),o_o4 _ g.nums,plainM,if_pos h2]
  rfl
 rw [if_neg h2]
 by_cases h3:c.op=8
 ·rw [if_pos h3,parseW,ho,if_neg (by omega),if_neg (by omega),if_pos (by omega),plainM,if_neg h2,if_pos h3]
  by_cases h4:c.bytes=[]
  ·rw [if_pos h4,parse8,if_pos rfl,h4];rfl
  ·rw [if_neg h4,parse8]
   rw [if_neg (o_o7 h4).2,if_neg (o_o7 h4).1,o_o2 _ g.bytes]
   rfl
 rw [if_neg h3,parseW,ho,if_neg (by omega),if_neg (by omega),if_neg (by omega),plainM,if_neg h2,if_neg h3,hkn,hk]
 have e1:=o_nu g.h
 have e2:=o_nu g.o
 have e3:=o_nu g.i
 have e4:=o_nu g.n
 have e5:=o_nw g.key
 rcases (by omega:k=1∨k=2∨k=3∨k=4∨k=5∨k=6∨k=7∨k=8∨k=9) with rfl | rfl | rfl | rfl | rfl | rfl | rfl | rfl | rfl
 ·exact absurd (by exact_mod_cast hk) h2
 all_goals first
  | (exact absurd (by exact_mod_cast hk) h3;done)
  | simp [fldsN,getF,setsF,setF,e1,e2,e3,e4,e5,CmdM.zero]
theorem o_o9:∀(l:List FldM) (c d:CmdM) (r:List (List Nat)),l.Nodup→setsF c l r=some d→l.map (getF d)=r∧(∀f,f∉l→getF d f=getF c f)∧d.op=c.op∧d.nums=c.nums∧d.bytes=c.bytes
 | [],c,d,[],_,h=>by cases h;simp
 | [],c,d,_::_,_,h=>by cases h
 | _::_,c,d,[],_,h=>by cases h
 | f::l,c,d,s::r,hn,h=>by
  rw [setsF,Option.bind_eq_some_iff] at h
  obtain ⟨c',h1,h2⟩:=h
  have hn':=List.nodup_cons.1 hn
  obtain ⟨i1,i2,i3,i4,i5⟩:=o_o9 l c' d r hn'.2 h2
  have hc:getF c' f=s∧(∀g,g≠f→getF c' g=getF c g)∧c'.op=c.op∧c'.nums=c.nums∧c'.bytes=c.bytes:=by
   cases f<;>simp only [setF,Option.map_eq_some_iff] at h1<;>obtain ⟨v,hv,rfl⟩:=h1
   ·refine ⟨(o_nv hv).2,fun g hg=>?_,rfl,rfl,rfl⟩;cases g<;>first | rfl | exact absurd rfl hg
   ·refine ⟨(o_nv hv).2,fun g hg=>?_,rfl,rfl,rfl⟩;cases g<;>first | rfl | exact absurd rfl hg
   ·refine ⟨(o_nv hv).2,fun g hg=>?_,rfl,rfl,rfl⟩;cases g<;>first | rfl | exact absurd rfl hg
   ·refine ⟨(o_nv hv).2,fun g hg=>?_,rfl,rfl,rfl⟩;cases g<;>first | rfl | exact absurd rfl hg
   ·refine ⟨(o_nx hv).2,fun g hg=>?_,rfl,rfl,rfl⟩;cases g<;>first | rfl | exact absurd rfl hg
  refine ⟨?_,?_,by rw [i3,hc.2.2.1],by rw [i4,hc.2.2.2.1],by rw [i5,hc.2.2.2.2]⟩
  ·rw [List.map_cons,i1,i2 f hn'.1,hc.1]
  ·intro g hg
   rw [i2 g fun h=>hg (by simp [h]),hc.2.1 g fun h=>hg (by simp [h])]
theorem o_oa {ws:List (List Nat)} {c:CmdM} (h:parseW ws=some c):textW c=ws:=by
 cases ws with
 | nil=>cases h
 | cons w rest =>
  rw [parseW] at h
  split at h
  ·cases h
  rename_i h0
  obtain ⟨hw,hlt⟩:=o_nz w h0
  have hwn:∀k:Nat,k<10→k≠0→wordN (k:Int)=wordT.getD k []∧wordT.getD k []≠[]:=by decide
  obtain ⟨w1,w2⟩:=hwn (opN w) hlt h0
  rw [hw] at w1 w2
  split at h
  ·rename_i h1
   split at h
   ·cases h
   rename_i h2
   rw [Option.map_eq_some_iff] at h
   obtain ⟨l,h3,rfl⟩:=h
   obtain ⟨i1,i2⟩:=o_o5 _ _ h3
   rw [h1] at w1
   have hl:l≠[]:=by rintro rfl;exact h2 i1.symm
   unfold textW
   dsimp only
   rw [show wordN 1=w from w1,if_neg w2,if_pos rfl,if_neg hl,i1]
  rename_i h1
  split at h
  ·rename_i h8
   unfold parse8 at h
   split at h
   ·rename_i s
    rw [h8] at w1
    split at h
    ·rename_i hs
     cases h
     unfold textW
     dsimp only
     rw [show wordN 8=w from w1,if_neg w2,if_neg (by decide),if_pos rfl,hs]
     rfl
    ·split at h
     ·cases h
     rename_i hs hs2
     rw [Option.map_eq_some_iff] at h
     obtain ⟨b,h3,rfl⟩:=h
     obtain ⟨i1,i2⟩:=o_o3 _ _ h3
     have hb:b≠[]:=by rintro rfl;exact hs2 i1.symm
     unfold textW
     dsimp only
     rw [show wordN 8=w from w1,if_neg w2,if_neg (by decide),if_pos rfl,if_neg hb,i1]
   ·cases h
  rename_i h8
  have hnd:(fldsN (opN w)).Nodup:=by
   have:∀k,k<10→(fldsN k).Nodup:=by decide
   exact this _ hlt
  obtain ⟨i1,i2,i3,i4,i5⟩:=o_o9 _ _ _ _ hnd h
  unfold textW
  have i3':c.op=(opN w:Int):=i3
  rw [i3',w1,if_neg w2,if_neg (by omega),if_neg (by omega),Int.toNat_natCast,i1]
end
section
def u8l (l:List Nat):List UInt8:=l.map UInt8.ofNat
theorem o_ob (l:List Nat):(bst l).data.toList=u8l l:=rfl
theorem o_oc (a b:List Nat):u8l (a++b)=u8l a++u8l b:=List.map_append ..
theorem o_od (c:Nat) (h:c<256):(UInt8.ofNat c).toNat=c:=by simp [UInt8.toNat_ofNat'];omega
theorem o_oe (v:Int) (h:inR v):(itoaN v).length≤100:=by
 unfold inR at h
 have h1:=o_ge v.natAbs 20 (by omega) (by decide)
 unfold itoaN
 split
 ·rw [List.length_cons,o_gl];omega
 ·rw [o_gl];omega
theorem o_of (M acc c:Nat) (r:List UInt8) (h:48≤c∧c≤57) (hM:acc*10+(c-48)≤M) (hM2:M≤18446744073709551615):Lib.parseUintM M acc (UInt8.ofNat c::r)=Lib.parseUintM M (acc*10+(c-48)) r:=by
 rw [Lib.parseUintM,o_od c (by omega),if_pos h,if_neg (by omega),if_neg (by omega)]
theorem o_og (acc c:Nat) (r:List UInt8) (h:48≤c∧c≤57) (hM:acc*10+(c-48)≤18446744073709551615):Lib.parseUint10 acc (UInt8.ofNat c::r)=Lib.parseUint10 (acc*10+(c-48)) r:=by
 rw [Lib.parseUint10,o_od c (by omega),if_pos h,if_neg (by omega),if_neg (by omega)]
theorem o_oh:∀(l:List Nat) (a:Nat),a≤valN l a
 | [],a=>Nat.le_refl _
 | c::l,a=>by have:=o_oh l (a*10+(c-48));rw [valN];omega
theorem o_oi (M:Nat) (hM2:M≤18446744073709551615):∀(l:List Nat) (acc:Nat),(∀c∈l,48≤c∧c≤57)→valN l acc≤M→Lib.parseUintM M acc (u8l l) = .ok (valN l acc)
 | [],acc,_,_=>rfl
 | c::l,acc,h,hv=>by
  rw [valN] at hv ⊢
  have h1:=o_oh l (acc*10+(c-48))
  show Lib.parseUintM M acc (UInt8.ofNat c::u8l l)=_
  rw [o_of M acc c _ (h c (by simp)) (by omega) hM2,o_oi M hM2 l _ (fun x hx=>h x (by simp [hx])) hv]
theorem o_oj:∀(l:List Nat) (acc:Nat),(∀c∈l,48≤c∧c≤57)→valN l acc≤18446744073709551615→Lib.parseUint10 acc (u8l l) = .ok (valN l acc)
 | [],acc,_,_=>rfl
 | c::l,acc,h,hv=>by
  rw [valN] at hv ⊢
  have h1:=o_oh l (acc*10+(c-48))
  show Lib.parseUint10 acc (UInt8.ofNat c::u8l l)=_
  rw [o_og acc c _ (h c (by simp)) (by omega),o_oj l _ (fun x hx=>h x (by simp [hx])) hv]
theorem o_ok {l:List Nat} (h:l≠[]):u8l l≠[]:=by cases l<;>simp_all [u8l]
theorem o_ol {u:Nat} (h:u<18446744073709551616):Lib.parseUintB 64 (u8l (decN u)) = .ok u:=by
 unfold Lib.parseUintB
 rw [if_neg (o_ok (o_np u)),o_oi _ (by decide) _ _ (o_no u) (by rw [o_nm];show u≤2^64-1;omega),o_nm]
theorem o_om {u:Nat} (h:u<18446744073709551616):Lib.parseMag (u8l (decN u)) = .ok u:=by
 unfold Lib.parseMag
 rw [if_neg (o_ok (o_np u)),o_oj _ _ (o_no u) (by rw [o_nm];omega),o_nm]
theorem o_on {v:Int} (h:inR v):Lib.atoiAll (u8l (itoaN v)) = .ok v:=by
 unfold inR at h
 unfold itoaN
 split
 ·show Lib.atoiAll (UInt8.ofNat 45::u8l (decN v.natAbs))=_
  unfold Lib.atoiAll
  simp only [o_od 45 (by omega)]
  rw [if_pos (by simp),o_om (by omega)]
  simp only [not_true_eq_false,false_and,if_false,true_and,if_true]
  rw [if_neg (by omega)]
  congr 1;omega
 ·obtain ⟨c,r,hc⟩:∃c r,decN v.natAbs=c::r:=by
   cases hd:decN v.natAbs with
   | nil=>exact absurd hd (o_np _)
   | cons c r=>exact ⟨c,r,rfl⟩
  have hcd:=o_no v.natAbs c (by rw [hc];simp)
  have hm:=o_om (u:=v.natAbs) (by omega)
  rw [hc] at hm ⊢
  show Lib.atoiAll (UInt8.ofNat c::u8l r)=_
  unfold Lib.atoiAll
  simp only [o_od c (by omega)]
  rw [if_neg (by omega),show (UInt8.ofNat c::u8l r)=u8l (c::r) from rfl,hm]
  simp only [show ¬c=45 by omega,not_false_eq_true,true_and,false_and,if_false]
  rw [if_neg (by omega)]
  congr 1;omega
theorem o_oo:∀{a b:List Nat},(∀c∈a,c<256)→(∀c∈b,c<256)→u8l a=u8l b→a=b
 | [],[],_,_,_=>rfl
 | [],_::_,_,_,h=>by simp [u8l] at h
 | _::_,[],_,_,h=>by simp [u8l] at h
 | x::a,y::b,ha,hb,h=>by
  have h1:UInt8.ofNat x=UInt8.ofNat y:=(List.cons.inj h).1
  have h2:=congrArg UInt8.toNat h1
  rw [o_od x (ha x (by simp)),o_od y (hb y (by simp))] at h2
  rw [h2,o_oo (fun c hc=>ha c (by simp [hc])) (fun c hc=>hb c (by simp [hc])) (List.cons.inj h).2]
theorem o_op {s:List Nat} {v:Int} (hv:inR v) (h:Lib.atoiAll (u8l s) = .ok v):readI s=if itoaN v=s then some v else none:=by
 split
 ·rename_i e;rw [←e];exact o_nu hv
 ·rename_i e
  cases hr:readI s with
  | none=>rfl
  | some w =>
   obtain ⟨h1,h2⟩:=o_nv hr
   rw [←h2,o_on h1] at h
   cases h
   exact absurd h2 e
theorem o_oq {s:List Nat} (h:∀v,Lib.atoiAll (u8l s)≠.ok v):readI s=none:=by
 cases hr:readI s with
 | none=>rfl
 | some w =>
  obtain ⟨h1,h2⟩:=o_nv hr
  exact absurd (by rw [←h2];exact o_on h1) (h w)
theorem o_or {s:List Nat} {v:Nat} (hv:v<18446744073709551616) (h:Lib.parseUintB 64 (u8l s) = .ok v):readK s=if decN v=s then some v else none:=by
 split
 ·rename_i e;rw [←e];exact o_nw hv
 ·rename_i e
  cases hr:readK s with
  | none=>rfl
  | some w =>
   obtain ⟨h1,h2⟩:=o_nx hr
   rw [←h2,o_ol h1] at h
   cases h
   exact absurd h2 e
theorem o_os {s:List Nat} (h:∀v,Lib.parseUintB 64 (u8l s)≠.ok v):readK s=none:=by
 cases hr:readK s with
 | none=>rfl
 | some w =>
  obtain ⟨h1,h2⟩:=o_nx hr
  exact absurd (by rw [←h2];exact o_ol h1) (h w)
theorem o_ot {l:List UInt8} {v:Int} (h:Lib.atoiAll l = .ok v):inR v:=by
 unfold Lib.atoiAll at h
 split at h
 ·cases h
 ·simp only at h
  split at h
  ·cases h
  ·cases h
  ·rename_i u hu
   split at h
   ·cases h
   ·split at h
    ·cases h
    ·have:=Lib.parseMag_lt hu
     cases h
     unfold inR
     split<;>omega
theorem o_ou:∀(l:List UInt8) (M acc u:Nat),acc≤M→Lib.parseUintM M acc l = .ok u→u≤M
 | [],M,acc,u,h0,h=>by simp only [Lib.parseUintM] at h;injection h with h;omega
 | c::r,M,acc,u,h0,h=>by
  simp only [Lib.parseUintM] at h
  split at h
  ·split at h
   ·cases h
   ·split at h
    ·cases h
    ·exact o_ou r M _ u (by omega) h
  ·cases h
theorem o_ov {l:List UInt8} {v:Nat} (h:Lib.parseUintB 64 l = .ok v):v<18446744073709551616:=by
 unfold Lib.parseUintB at h
 split at h
 ·cases h
 ·have:=o_ou _ _ _ _ (by omega) h
  have e:2^64-1=18446744073709551615:=by decide
  omega
end
section
open Go.RowKit

theorem o_ow {P:Program} {f:FuncId} {c:C} {rs:List RV} {nt:Nat} (hf:fnOf P f=some (c,rs,nt,false)) (vs:Array Value) (w:World):(callFunc f vs).run P w = .ok (.enter f vs) w:=by
 unfold fnOf at hf
 split at hf
 ·rename_i fn hfn
  split at hf
  ·rename_i b hb
   simp only [Option.some.injEq,Prod.mk.injEq] at hf
   obtain ⟨h1,h2,h3,h4⟩:=hf
   have h1 : ¬ fn.name = "runtime.NumGoroutine" := by simpa using h4
   simp [callFunc,hfn,h1,hb]
  ·cases hf
 ·cases hf

abbrev memW (W:World):Mem:=⟨fun _=>none,fun b=>b<W.heap.size,W⟩

theorem o_ox {P:Program} {f:FuncId} {args:List V} {c:C} {rs:List RV} {nt:Nat} (hf:fnOf P f=some (c,rs,nt,false)) (E:Eqn P f args [] (.d (.bool true)) []) {W:World} {vs:List Value} (h:V.reps (memW W) args vs) (ht:Tabs (memW W)) :
  Calls P f vs.toArray W (fun e W'=>e = .returned (.bool true)∧Same W W'):=by
 rcases E.run (memW W) vs ⟨fun b h=>h,fun n b h=>(by cases h),ht⟩ h (by simp) (fun n i b h=>by simp at h) (fun _ _=>rfl) with ⟨v,h1,_⟩ | ⟨_,h2⟩
 ·rw [o_ow hf] at h1;cases h1
 ·refine h2.mono ?_
  rintro e w' ⟨v,m',rfl,rfl,hE⟩
  have hv:=hE.rep
  rw [V.rep_d] at hv
  unfold D.rep at hv
  subst hv
  exact ⟨rfl,hE.le.os,hE.le.tape,hE.le.output,hE.le.size,fun k hk _=>hE.le.imm k hk⟩

theorem reps_of {I:Nat→Prop} {w:World} {α:Type} (f:α→D) (g:α→Value) (h:∀a,D.rep I w (f a) (g a)):∀l:List α,D.reps I w (l.map f) (l.map g)
 | []=>by simp
 | a::l=>by
  rw [List.map_cons,List.map_cons,D.reps_cons]
  exact ⟨h a,reps_of f g h l⟩
end
section
open Go.RowKit
end
section
open Go.RowKit
end
section
open Go.RowKit
theorem Eqn.lib {P:Program} {f:FuncId} {args:List V} {X:V} (hlow:X.low 0=true)
  (h:∀(m:Mem) (vs:List Value),m.base→V.reps m args vs→(callFunc f vs.toArray).run P m.w = .ok (.enter f vs.toArray) m.w∧Calls P f vs.toArray m.w fun e w'=>∃v,e = .returned v∧Below m.w.heap.size m.w w' ∧
   ∃I':Nat→Prop,(∀b,m.I b→I' b)∧(∀b,I' b→m.I b∨m.w.heap.size≤b∧b<w'.heap.size)∧X.rep ⟨m.ρ,I',w'⟩ v):Eqn P f args [] X []:=by
 refine ⟨by simp,by simp,hlow,by simp,?_⟩
 intro m vs hb hv _ _ htop
 obtain ⟨h1,h2⟩:=h m vs hb hv
 refine .inr ⟨h1,h2.mono ?_⟩
 rintro e w' ⟨v,rfl,hB,I',i1,i2,hX⟩
 have hI:∀b,m.I b→w'.heap[b]?=m.w.heap[b]?:=fun b hb'=>hB.block b (hb.imm b hb')
 refine ⟨v,⟨m.ρ,I',w'⟩,rfl,rfl,⟨fun b hb'=>?_,fun n b hn=>?_,hb.tabs.mono i1 hI⟩,⟨fun _ _ h=>h,i1,hB.os,hB.tape,hB.output,trivial,hB.size,fun b hlt _=>hB.block b hlt,fun b hlt=>?_,hI,fun b hb'=>(i2 b hb').imp id fun k=>.inl k.1,fun _ _ h=>.inl h⟩,hX,by simp,by simp,fun n _=>htop n (Nat.zero_le _),fun n b _ hn=>?_⟩
 ·rcases i2 b hb' with k | k
  ·exact Nat.lt_of_lt_of_le (hb.imm b k) hB.size
  ·exact k.2
 ·exact Nat.lt_of_lt_of_le (hb.dom n b hn) hB.size
 ·unfold World.shape?;rw [hB.block b hlt]
 ·rw [htop n (Nat.zero_le _)] at hn;cases hn
theorem Eqn.libS {P:Program} {f:FuncId} {args:List V} {X:V} (hlow:X.low 0=true) (R:Value→Prop) (hR:∀v,R v→∀m,X.rep m v)
  (h:∀(m:Mem) (vs:List Value),m.base→V.reps m args vs→(callFunc f vs.toArray).run P m.w = .ok (.enter f vs.toArray) m.w∧Calls P f vs.toArray m.w fun e w'=>∃v,e = .returned v∧R v∧Below m.w.heap.size m.w w'):Eqn P f args [] X [] :=
 Eqn.lib hlow fun m vs hb hv=>by
  obtain ⟨h1,h2⟩:=h m vs hb hv
  exact ⟨h1,h2.mono fun e w' ⟨v,e1,e2,e3⟩=>⟨v,e1,e3,m.I,fun _ h=>h,fun _ h=>.inl h,hR v e2 _⟩⟩
theorem o_oy (s:ByteArray):∀v,v=Value.string s→∀m,(V.d (.str s)).rep m v:=fun v h m=>by rw [V.rep_d];unfold D.rep;exact h
theorem o_oz (k:IntKind) (n:Int):∀v,v=Value.int k n→∀m,(V.d (.int k n)).rep m v:=fun v h m=>by rw [V.rep_d];unfold D.rep;exact h
theorem reps1 {m:Mem} {x:V} {vs:List Value} (h:V.reps m [x] vs):∃v,vs=[v]∧x.rep m v:=by
 obtain ⟨v,r,rfl,h1,h2⟩:=V.reps_cons'.1 h
 simp at h2;subst h2
 exact ⟨v,rfl,h1⟩
theorem reps2 {m:Mem} {x y:V} {vs:List Value} (h:V.reps m [x,y] vs):∃v u,vs=[v,u]∧x.rep m v∧y.rep m u:=by
 obtain ⟨v,r,rfl,h1,h2⟩:=V.reps_cons'.1 h
 obtain ⟨u,rfl,h3⟩:=reps1 h2
 exact ⟨v,u,rfl,h1,h3⟩
theorem reps3 {m:Mem} {x y z:V} {vs:List Value} (h:V.reps m [x,y,z] vs):∃v u t,vs=[v,u,t]∧x.rep m v∧y.rep m u∧z.rep m t:=by
 obtain ⟨v,r,rfl,h1,h2⟩:=V.reps_cons'.1 h
 obtain ⟨u,t,rfl,h3⟩:=reps2 h2
 exact ⟨v,u,t,rfl,h1,h3⟩
theorem repStr {m:Mem} {s:ByteArray} {v:Value} (h:(V.d (.str s)).rep m v):v = .string s:=by rw [V.rep_d] at h;unfold D.rep at h;exact h
theorem repInt {m:Mem} {k:IntKind} {n:Int} {v:Value} (h:(V.d (.int k n)).rep m v):v = .int k n:=by rw [V.rep_d] at h;unfold D.rep at h;exact h
theorem o_p0 (w:World) (e:TypeId) (s:ByteArray):Below w.heap.size w (Lib.bytesWorld w e s):=Lib.bytesWorld_below _ _ _

theorem o_p1 (s:ByteArray) (c:Nat) (hc:c<256):Eqn Tryz.prog o_ap [.d (.str s),.d (.int .u8 c)] [] (.d (.int .i64 (Lib.indexByte s.data.toList (UInt8.ofNat c)))) [] :=
 Eqn.libS rfl _ (o_oz _ _) fun m vs hb hv=>by
  obtain ⟨v,u,rfl,h1,h2⟩:=reps2 hv
  rw [repStr h1,repInt h2]
  exact ⟨o_ow o_ar _ _,(Any.strings_IndexByte layIB s c m.w).mono fun e w' ⟨e1,e2⟩=>⟨_,e1,rfl,e2▸Below.refl _ _⟩⟩
theorem o_p2 (s:ByteArray) (c:Nat) (hc:c<256):Eqn Tryz.prog o_ag [.d (.str s),.d (.str ⟨#[UInt8.ofNat c]⟩)] [] (.d (.int .i64 (Lib.countByte s.data.toList (UInt8.ofNat c)))) [] :=
 Eqn.libS rfl _ (o_oz _ _) fun m vs hb hv=>by
  obtain ⟨v,u,rfl,h1,h2⟩:=reps2 hv
  rw [repStr h1,repStr h2]
  exact ⟨o_ow o_ai _ _,(Any.strings_Count_one layCn s (UInt8.ofNat c) m.w).mono fun e w' ⟨e1,e2⟩=>⟨_,e1,rfl,e2▸Below.refl _ _⟩⟩
theorem o_p3 (s:ByteArray) (c:Nat) (hc:c<256):Eqn Tryz.prog o_am [.d (.str s),.d (.str ⟨#[UInt8.ofNat c]⟩)] [] (.d (.int .i64 (Lib.indexByte s.data.toList (UInt8.ofNat c)))) [] :=
 Eqn.libS rfl _ (o_oz _ _) fun m vs hb hv=>by
  obtain ⟨v,u,rfl,h1,h2⟩:=reps2 hv
  rw [repStr h1,repStr h2]
  exact ⟨o_ow o_ao _ _,(Any.strings_Index_one layIx s (UInt8.ofNat c) m.w).mono fun e w' ⟨e1,e2⟩=>⟨_,e1,rfl,e2▸Below.refl _ _⟩⟩
theorem extJn:Go.Proofs.Builder.Extra Tryz.prog renJn where
 sizeBuilder:=by kernel_rfl
 liesBuilder:=by kernel_rfl
 t5:=Tryz.underlying5
 a5:=Tryz.isAgg5
 z5:=Tryz.sizeOf5
 v5:=Tryz.zeroValue5
 infoByte:=by kernel_rfl
 cellsByte:=by kernel_rfl
 sizeByte:=by kernel_rfl
 neB5:=by decide
theorem o_p4 {I:Nat→Prop} {w:World}:∀{l:List ByteArray} {vs:List Value},D.reps I w (l.map .str) vs→vs=l.map .string
 | [],vs,h=>by simpa using h
 | x::l,vs,h=>by
  obtain ⟨v,r,rfl,h1,h2⟩:=D.reps_cons'.1 h
  unfold D.rep at h1
  rw [o_p4 h2,h1];rfl
theorem o_p5 (xs:List ByteArray) (sep:ByteArray) (hN:xs.length≤140737488355328) (hlen:(Lib.join (xs.map (·.data.toList)) sep.data.toList).length≤140737488355328) :
  Eqn Tryz.prog o_as [.d (.sl xs.length (xs.map .str)),.d (.str sep)] [] (.d (.str ⟨(Lib.join (xs.map (·.data.toList)) sep.data.toList).toArray⟩)) [] :=
 Eqn.libS rfl _ (o_oy _) fun m vs hb hv=>by
  obtain ⟨v,u,rfl,h1,h2⟩:=reps2 hv
  rw [repStr h2]
  rw [V.rep_d] at h1
  unfold D.rep at h1
  obtain ⟨p,cap,rfl,h3,h4,us,h5,h6,h7⟩:=h1
  obtain rfl:=o_p4 h6
  refine ⟨o_ow o_au _ _,?_⟩
  rcases h7 with ⟨rfl,rfl,h8⟩ | ⟨b,o,rfl,h8,h9⟩
  ·obtain rfl:xs=[]:=by simpa using h8
   exact (Any.strings_Join_none layJn extJn none 0 sep m.w).mono fun e w' ⟨e1,e2⟩=>⟨_,e1,rfl,e2▸Below.refl _ _⟩
  ·rcases h8 with h8 | h8
   ·obtain rfl:xs=[]:=by simpa using h8
    exact (Any.strings_Join_none layJn extJn _ cap sep m.w).mono fun e w' ⟨e1,e2⟩=>⟨_,e1,rfl,e2▸Below.refl _ _⟩
   ·exact (Any.strings_Join layJn extJn b o cap xs sep m.w (fun j x hx=>h9 j _ (by rw [List.getElem?_map,hx];rfl)) (hb.imm b h8) hN h3 hlen).mono fun e w' ⟨e1,e2⟩=>⟨_,e1,rfl,e2⟩
theorem o_p6 (s cs:ByteArray) (hs:s.size≤9223372036854775807) (hcs:cs.size<4294967281) (ha:∀(j:Nat) b,cs.data.toList[j]?=some b→b.toNat<128) :
  Eqn Tryz.prog o_b1 [.d (.str s),.d (.str cs)] [] (.d (.str ⟨(Lib.trimS s.data.toList cs.data.toList).toArray⟩)) [] :=
 Eqn.libS rfl _ (o_oy _) fun m vs hb hv=>by
  obtain ⟨v,u,rfl,h1,h2⟩:=reps2 hv
  rw [repStr h1,repStr h2]
  exact ⟨o_ow o_b3 _ _,(Any.strings_Trim_ascii layTr (Tryz.zeroValue247) (by kernel_rfl) s cs m.w hs hcs ha).mono fun e w' ⟨e1,e2⟩=>⟨_,e1,rfl,e2⟩⟩
theorem o_p7 {m:Mem} (ht:Tabs m) {g:Nat} {e:D} (h:tab g=some [e]):∃ev,m.w.cell? ⟨g,0,none⟩=some ev∧e.rep m.I m.w ev∧ev.oneCell'=true:=by
 have h1:=ht g _ h
 unfold D.rep at h1
 obtain ⟨b,o,h2,h3,vs,h4,h5,h6⟩:=h1
 obtain ⟨v,r,rfl,h7,h8⟩:=D.reps_cons'.1 h5
 simp only [Value.pointer.injEq,Option.some.injEq,Addr.mk.injEq] at h2
 obtain ⟨rfl,h2,_⟩:=h2
 refine ⟨v,?_,h7,h4 v (by simp)⟩
 have:=h6 0 v rfl
 rw [show o+0=0 by omega] at this
 exact this
def errAt (fn s:ByteArray) (e:D):D:=.ptr [.str fn,.str s,e] 0
theorem o_p8 {m:Mem} {w':World} {fn s:ByteArray} {e:D} {ev:Value} {N T:Nat} (hb:m.base) (hB:Below m.w.heap.size m.w w') (he:e.rep m.I m.w ev) (h1:ev.oneCell'=true) (hN:m.w.heap.size≤N) (hc:w'.heap[N]?=some (.cells #[.string fn,.string s,ev] T (0,0))) :
  D.rep (fun b=>m.I b∨b=N) w' (errAt fn s e) (.pointer (some ⟨N,0,none⟩)):=by
 unfold errAt D.rep
 refine ⟨N,0,rfl,.inr rfl,[.string fn,.string s,ev],?_,?_,?_⟩
 ·intro u hu
  simp at hu
  rcases hu with rfl | rfl | rfl
  ·rfl
  ·rfl
  ·exact h1
 ·refine D.reps_cons.2 ⟨by unfold D.rep;rfl,D.reps_cons.2 ⟨by unfold D.rep;rfl,D.reps_cons.2 ⟨D.rep_mono (fun b h=>.inl h) (fun b h=>hB.block b (hb.imm b h)) _ _ he,D.reps_nil.2 rfl⟩⟩⟩
 ·intro i u hu
  unfold World.cell?
  rw [hc]
  match i,hu with
  | 0,hu=>simpa using hu
  | 1,hu=>simpa using hu
  | 2,hu=>simpa using hu
  | i+3,hu=>simp at hu
theorem o_p9 {w:World} {N:Nat} {o:Obj} (h:w.heap[N]?=some o):N<w.heap.size:=(Array.getElem?_eq_some_iff.1 h).1
theorem o_pa (s:ByteArray) (hlim:s.size≤281474976710656):∃(v:Int) (E:D),Eqn Tryz.prog o_a4 [.d (.str s)] [] (.tup [.d (.int .i64 v),.d E]) [] ∧
  ((E = .nilifc∧Lib.atoiAll s.data.toList = .ok v)∨((∃t d,E = .ifc t d)∧∀w,Lib.atoiAll s.data.toList≠.ok w)):=by
 have err:∀(g:Nat) (e:D) (v:Int),tab g=some [e]→(∃t d,e = .ifc t d) →
   (∀(ev:Value) (w:World),w.cell? ⟨g,0,none⟩=some ev→(ev = .nilIface∨∃te pe,ev = .iface te pe)→Calls Tryz.prog o_a4 #[.string s] w fun e' w'=>∃N,e' = .returned (.tuple #[.int .i64 v,.iface (renAt.t 168) (.pointer (some ⟨N,0,none⟩))])∧w.heap.size≤N∧w'.heap[N]?=some (.cells #[.string ⟨#[65,116,111,105]⟩,.string s,ev] (renAt.t 210) (0,0))∧Below w.heap.size w w') →
   Eqn Tryz.prog o_a4 [.d (.str s)] [] (.tup [.d (.int .i64 v),.d (.ifc (renAt.t 168) (errAt ⟨#[65,116,111,105]⟩ s e))]) []:=fun g e v hg hife hC =>
  Eqn.lib (by rfl) fun m vs hb hv=>by
   obtain ⟨u,rfl,h1⟩:=reps1 hv
   rw [repStr h1]
   obtain ⟨ev,c1,c2,c3⟩:=o_p7 hb.tabs hg
   have hev:ev = .nilIface∨∃te pe,ev = .iface te pe:=by
    obtain ⟨t,d,rfl⟩:=hife
    unfold D.rep at c2
    obtain ⟨u,rfl,_⟩:=c2
    exact .inr ⟨_,_,rfl⟩
   refine ⟨o_ow o_a6 _ _,(hC ev m.w c1 hev).mono ?_⟩
   rintro e' w' ⟨N,rfl,h2,h3,h4⟩
   refine ⟨_,rfl,h4,fun b=>m.I b∨b=N,fun b h=>.inl h,?_,?_⟩
   ·rintro b (h | rfl)
    ·exact .inl h
    ·exact .inr ⟨h2,o_p9 h3⟩
   ·unfold V.rep
    refine ⟨[_,_],rfl,V.reps_cons.2 ⟨by rw [V.rep_d];unfold D.rep;rfl,V.reps_cons.2 ⟨?_,V.reps_nil.2 rfl⟩⟩⟩
    rw [V.rep_d];unfold D.rep
    exact ⟨_,rfl,o_p8 hb h4 c2 c3 h2 h3⟩
 cases h:Lib.atoiAll s.data.toList with
 | ok v =>
  refine ⟨v,.nilifc,Eqn.libS rfl (fun x=>x = .tuple #[.int .i64 v,.nilIface]) (fun x hx m=>?_) fun m vs hb hv=>?_,.inl ⟨rfl,rfl⟩⟩
  ·subst hx
   unfold V.rep
   exact ⟨[_,_],rfl,V.reps_cons.2 ⟨by rw [V.rep_d];unfold D.rep;rfl,V.reps_cons.2 ⟨by rw [V.rep_d];unfold D.rep;rfl,V.reps_nil.2 rfl⟩⟩⟩
  ·obtain ⟨u,rfl,h1⟩:=reps1 hv
   rw [repStr h1]
   refine ⟨o_ow o_a6 _ _,(Any.strconv_Atoi_ok layAt s (by omega) v h m.w).mono ?_⟩
   rintro e w' ⟨rfl,hw⟩
   refine ⟨_,rfl,rfl,?_⟩
   rcases hw with rfl | ⟨t,rfl⟩
   ·exact Below.refl _ _
   ·exact o_p0 _ _ _
 | «syntax» => exact ⟨0, _, err (renAt.g 15) _ 0 rfl ⟨_, _, rfl⟩ fun ev w h1 h2 => Any.strconv_Atoi_syntax layAt s hlim h ev w h1 h2, .inr ⟨⟨_, _, rfl⟩, fun w hw => by cases hw⟩⟩
 | range=>exact ⟨_,_,err (renAt.g 16) _ _ rfl ⟨_,_,rfl⟩ fun ev w h1 h2=>Any.strconv_Atoi_range layAt s hlim h ev w h1 h2,.inr ⟨⟨_,_,rfl⟩,fun w hw=>by cases hw⟩⟩
theorem o_pb (s:ByteArray) (hlim:s.size≤281474976710656):∃(v:Nat) (E:D),Eqn Tryz.prog o_ad [.d (.str s),.d (.int .i64 10),.d (.int .i64 64)] [] (.tup [.d (.int .u64 v),.d E]) [] ∧
  ((E = .nilifc∧Lib.parseUintB 64 s.data.toList = .ok v)∨((∃t d,E = .ifc t d)∧∀w,Lib.parseUintB 64 s.data.toList≠.ok w)):=by
 have err:∀(g:Nat) (e:D) (v:Nat),tab g=some [e]→(∃t d,e = .ifc t d) →
   (∀(ev:Value) (w:World),w.cell? ⟨g,0,none⟩=some ev→(ev = .nilIface∨∃te pe,ev = .iface te pe)→Calls Tryz.prog o_ad #[.string s,.int .i64 10,.int .i64 64] w fun e' w'=>∃N,e' = .returned (.tuple #[.int .u64 v,.iface (renPu.t 39) (.pointer (some ⟨N,0,none⟩))])∧w.heap.size≤N∧w'.heap[N]?=some (.cells #[.string ⟨#[80,97,114,115,101,85,105,110,116]⟩,.string s,ev] (renPu.t 44) (0,0))∧Below w.heap.size w w') →
   Eqn Tryz.prog o_ad [.d (.str s),.d (.int .i64 10),.d (.int .i64 64)] [] (.tup [.d (.int .u64 v),.d (.ifc (renPu.t 39) (errAt ⟨#[80,97,114,115,101,85,105,110,116]⟩ s e))]) []:=fun g e v hg hife hC =>
  Eqn.lib (by rfl) fun m vs hb hv=>by
   obtain ⟨u,y,z,rfl,h1,hy,hz⟩:=reps3 hv
   rw [repStr h1,repInt hy,repInt hz]
   obtain ⟨ev,c1,c2,c3⟩:=o_p7 hb.tabs hg
   have hev:ev = .nilIface∨∃te pe,ev = .iface te pe:=by
    obtain ⟨t,d,rfl⟩:=hife
    unfold D.rep at c2
    obtain ⟨u,rfl,_⟩:=c2
    exact .inr ⟨_,_,rfl⟩
   refine ⟨o_ow o_af _ _,(hC ev m.w c1 hev).mono ?_⟩
   rintro e' w' ⟨N,rfl,h2,h3,h4⟩
   refine ⟨_,rfl,h4,fun b=>m.I b∨b=N,fun b h=>.inl h,?_,?_⟩
   ·rintro b (h | rfl)
    ·exact .inl h
    ·exact .inr ⟨h2,o_p9 h3⟩
   ·unfold V.rep
    refine ⟨[_,_],rfl,V.reps_cons.2 ⟨by rw [V.rep_d];unfold D.rep;rfl,V.reps_cons.2 ⟨?_,V.reps_nil.2 rfl⟩⟩⟩
    rw [V.rep_d];unfold D.rep
    exact ⟨_,rfl,o_p8 hb h4 c2 c3 h2 h3⟩
 cases h:Lib.parseUintB 64 s.data.toList with
 | ok v =>
  refine ⟨v,.nilifc,Eqn.libS rfl (fun x=>x = .tuple #[.int .u64 v,.nilIface]) (fun x hx m=>?_) fun m vs hb hv=>?_,.inl ⟨rfl,rfl⟩⟩
  ·subst hx
   unfold V.rep
   exact ⟨[_,_],rfl,V.reps_cons.2 ⟨by rw [V.rep_d];unfold D.rep;rfl,V.reps_cons.2 ⟨by rw [V.rep_d];unfold D.rep;rfl,V.reps_nil.2 rfl⟩⟩⟩
  ·obtain ⟨u,y,z,rfl,h1,hy,hz⟩:=reps3 hv
   rw [repStr h1,repInt hy,repInt hz]
   refine ⟨o_ow o_af _ _,(Any.strconv_ParseUint_10_at64_ok layPu s (by omega) v h m.w).mono ?_⟩
   rintro e w' ⟨rfl,hw⟩
   refine ⟨_,rfl,rfl,?_⟩
   rcases hw with rfl | rfl
   ·exact Below.refl _ _
   ·exact o_p0 _ _ _
 | «syntax» => exact ⟨0, _, err (renPu.g 0) _ 0 rfl ⟨_, _, rfl⟩ fun ev w h1 h2 => Any.strconv_ParseUint_10_at64_syntax layPu s hlim h ev w h1 h2, .inr ⟨⟨_, _, rfl⟩, fun w hw => by cases hw⟩⟩
 | range=>exact ⟨18446744073709551615,_,err (renPu.g 1) _ 18446744073709551615 rfl ⟨_,_,rfl⟩ fun ev w h1 h2=>Any.strconv_ParseUint_10_at64_range layPu s hlim h ev w h1 h2,.inr ⟨⟨_,_,rfl⟩,fun w hw=>by cases hw⟩⟩
end
section
open Go.RowKit
def byV (l:List Nat):List V:=l.map fun n:Nat=>.d (.int .u8 n)
def byO (l:List Nat):Ob:=⟨5,byV l⟩
theorem o_pc (off:Nat) (Hs:List Ob) (h0:0<Hs.length) (hc:∀ob∈Hs,V.lowl Hs.length ob.c=true):Eqn Tryz.prog o_8p [.p 0 off] Hs (.p 0 off) Hs:=by
 refine ⟨by simp,by simp,by simpa [V.low] using h0,hc,?_⟩
 intro m vs hb hv ho hinj htop
 obtain ⟨v,rfl,h1⟩:=reps1 hv
 refine .inl ⟨v,?_,h1,rfl⟩
 rw [run_callFunc_extern o_8q (by kernel_rfl) (by kernel_rfl) (by kernel_rfl) (e:=Extern.AbiNoEscape.same) (by kernel_rfl)]
 rw [Lib.run_noEscape]
 rfl
theorem lies0:liesAt Tryz.prog (Program.depth Tryz.prog) 65 1 0 65 1=true:=by kernel_rfl
theorem lies1:liesAt Tryz.prog (Program.depth Tryz.prog) 67 1 1 65 1=true:=by kernel_rfl
theorem cells0:Program.cellsOf Tryz.prog 65=2:=by kernel_rfl
theorem cells1:Program.cellsOf Tryz.prog 67=3:=by kernel_rfl
@[simp] theorem o_pd (θ:Nat→Nat) (l:List D):V.rens θ (l.map .d)=l.map .d:=o_6x θ l
@[simp] theorem o_pe (k:Nat) (l:List D):V.lowl k (l.map .d)=true:=o_6y k l
@[simp] theorem o_pf (k:Nat) (l:List Nat):V.lowl k (byV l)=true:=by induction l<;>simp_all [byV,V.lowl,V.low]
@[simp] theorem o_pg (θ:Nat→Nat) (l:List Nat):V.rens θ (byV l)=byV l:=by induction l<;>simp_all [byV]
@[simp] theorem o_ph (l:List Nat):(byV l).length=l.length:=by simp [byV]
theorem o_pi (a b:List Nat):byV (a++b)=byV a++byV b:=by simp [byV]
theorem o_pj (l:List Nat) (h:∀c∈l,c<256):bytesV (bst l)=byV l:=by
 unfold bytesV byV
 rw [o_ob,u8l,List.map_map]
 refine List.map_congr_left fun c hc=>?_
 show V.d (.int .u8 ((UInt8.ofNat c).toNat:Int))=_
 rw [o_od c (h c hc)]
theorem o_pk:∀l:List Nat,intsV (byV l)=some (l.map fun n:Nat=>(n:Int))
 | []=>rfl
 | x::l=>by
  have:=o_pk l
  unfold byV at this ⊢
  rw [List.map_cons,intsV,this]
  rfl
theorem o_pl (l:List Nat):strOf (l.map fun n:Nat=>(n:Int))=bst l:=by
 unfold strOf bst
 rw [List.map_map]
 congr 1
theorem o_pm (l:List Nat) (h:∀c∈l,c<256):byteIs (l.map fun n:Nat=>(n:Int))=true:=by
 unfold byteIs
 rw [List.all_eq_true]
 intro x hx
 obtain ⟨c,hc,rfl⟩:=List.mem_map.1 hx
 have:=h c hc
 simp;omega
set_option maxHeartbeats 4000000 in
theorem ccheckZA:Eqn Tryz.prog o_7l [.p 0 0] [⟨65,[.d .nilp,.d .nilsl]⟩] (.tup []) [⟨65,[.p 0 0,.d .nilsl]⟩]:=by
 refine Eqn.gen [0] o_7n (by simp) (by simp) (by rfl) (by decide) (by simp) (by simp [V.lowl,V.low]) ?_
 refine cc (c':=?z226) ?_ ?_
 case refine_1=>cbv<;>exact rfl
 have hn:=o_pc 0 [⟨65,[.d .nilp,.d .nilsl]⟩] (by simp) (by simp [V.lowl,V.low])
 have l1:=lies0
 have l2:=cells0
 refine A10 (fs l1 l2) ?_;try with_reducible exact tt
 refine CallS.g [0] (hn) (R1 (fs l1 l2) ?_);try with_reducible exact tt
set_option maxHeartbeats 4000000 in
theorem ccheckZB (CH:List D):Eqn Tryz.prog o_7l [.p 0 1] [⟨67,[.ch 1,.d .nilp,.d .nilsl]⟩,⟨1000001,CH.map .d⟩] (.tup []) [⟨67,[.ch 1,.p 0 1,.d .nilsl]⟩,⟨1000001,CH.map .d⟩]:=by
 refine Eqn.gen [0,1] o_7n (by simp) (by simp) (by rfl) (by decide) (by simp) (by simp [V.lowl,V.low,o_6y,o_6x]) ?_
 refine cc (c':=?z227) ?_ ?_
 case refine_1=>cbv<;>exact rfl
 have hn:=o_pc 1 [⟨67,[.ch 1,.d .nilp,.d .nilsl]⟩,⟨1000001,CH.map .d⟩] (by simp) (by simp [V.lowl,V.low,o_6y,o_6x])
 have l1:=lies1
 have l2:=cells1
 refine A10 (fs l1 l2) ?_;try with_reducible exact tt
 refine CallS.g [0,1] (hn) (R1 (fs l1 l2) ?_);try with_reducible exact tt
set_option maxHeartbeats 4000000 in
theorem ccheckA (ln:Nat) (b:List Nat):Eqn Tryz.prog o_7l [.p 0 0] [⟨65,[.p 0 0,.own 1 1 ln]⟩,byO b] (.tup []) [⟨65,[.p 0 0,.own 1 1 ln]⟩,byO b]:=by
 refine Eqn.gen [0,1] o_7n (by simp) (by simp) (by rfl) (by decide) (by simp) (by simp [V.lowl,V.low,byO]) ?_
 refine cc (c':=?z228) ?_ ?_
 case refine_1=>cbv<;>exact rfl
 try simp only [byO]
 refine A00 ?_;try with_reducible exact tt
set_option maxHeartbeats 4000000 in
theorem wbyZA (x:Nat):Eqn Tryz.prog o_7f [.p 0 0,.d (.int .u8 x)] [⟨65,[.d .nilp,.d .nilsl]⟩] (.d .nilifc) [⟨65,[.p 0 0,.own 1 1 1]⟩,byO [x]]:=by
 refine Eqn.gen [0,2] o_7h (by simp) (by simp) (by rfl) (by decide) (by simp) (by simp [V.lowl,V.low,byO]) ?_
 refine cc (c':=?z231) ?_ ?_
 case refine_1=>cbv<;>exact rfl
 try simp only [byO,byV,List.map_cons,List.map_nil]
 have hc:=ccheckZA
 refine A00 ?_;try with_reducible exact tt
 refine CallS.g [0] (hc) (R0 ?_);try with_reducible exact tt
set_option maxHeartbeats 4000000 in
theorem wbyA (b:List Nat) (x:Nat) (hn:b.length≤100000000):EqnD Tryz.prog o_7f [.p 0 0,.d (.int .u8 x)] [⟨65,[.p 0 0,.own 1 1 b.length]⟩,byO b] (.d .nilifc) [⟨65,[.p 0 0,.own 2 1 (b.length+1)]⟩,byO b,byO (b++[x])] [1]:=by
 refine Eqn.gen [0,1,3] o_7h (by simp) (by simp) (by rfl) (by decide) (by simp) (by simp [V.lowl,V.low,byO]) ?_
 refine cc (c':=?z232) ?_ ?_
 case refine_1=>cbv<;>exact rfl
 try simp only [byO]
 have h2:b.length+1≤140737488355328:=by omega
 have hc:=ccheckA b.length b
 have ha:byV (b++[x])=byV b++[.d (.int .u8 x)]:=o_pi b [x]
 simp only [byO] at hc
 refine A10 (fs h2 ha) ?_;try with_reducible exact tt
 refine CallS.g [0,1] (hc) (R1 (fs h2 ha) ?_);try with_reducible exact tt
 all_goals (rw [←ha,o_pg];exact Subs.refl _)
set_option maxHeartbeats 4000000 in
theorem bstrA (b:List Nat) (hb:∀c∈b,c<256) (h0:b≠[]) (hn:b.length≤100000000):EqnD Tryz.prog o_7c [.p 0 0] [⟨65,[.p 0 0,.own 1 1 b.length]⟩,byO b] (.d (.str (bst b))) [⟨65,[.p 0 0,.own 1 1 b.length]⟩,byO b] [1]:=by
 refine Eqn.gen [0,1] o_7e (by simp) (by simp) (by rfl) (by decide) (by simp) (by simp [V.lowl,V.low,byO]) ?_
 refine cc (c':=?z234) ?_ ?_
 case refine_1=>cbv<;>exact rfl
 try simp only [byO]
 have h1:0<b.length:=List.length_pos_iff.2 h0
 have h2:¬b=[]:=h0
 have h3:(byV b).take b.length=byV b:=List.take_of_length_le (by simp)
 have h4:=o_pk b
 have h5:=o_pm b hb
 have h6:=o_pl b
 have h7:(b.length:Int)≤9223372036854775807:=by omega
 refine A10 (fs h1 (fs h2 (fs h3 (fs h4 (fs h5 (fs h6 h7)))))) ?_;try with_reducible exact tt
set_option maxHeartbeats 4000000 in
theorem ccheckB (CH:List D) (ln:Nat) (b:List Nat):Eqn Tryz.prog o_7l [.p 0 1] [⟨67,[.ch 1,.p 0 1,.own 2 1 ln]⟩,⟨1000001,CH.map .d⟩,byO b] (.tup []) [⟨67,[.ch 1,.p 0 1,.own 2 1 ln]⟩,⟨1000001,CH.map .d⟩,byO b]:=by
 refine Eqn.gen [0,1,2] o_7n (by simp) (by simp) (by rfl) (by decide) (by simp) (by simp [V.lowl,V.low,byO]) ?_
 refine cc (c':=?z235) ?_ ?_
 case refine_1=>cbv<;>exact rfl
 try simp only [byO]
 refine A00 ?_;try with_reducible exact tt
set_option maxHeartbeats 4000000 in
theorem wstrZB (CH:List D) (l:List Nat) (hl:∀c∈l,c<256) (h0:l≠[]) (hn:l.length≤100000000):Eqn Tryz.prog o_7i [.p 0 1,.d (.str (bst l))] [⟨67,[.ch 1,.d .nilp,.d .nilsl]⟩,⟨1000001,CH.map .d⟩] (.tup [.d (.int .i64 l.length),.d .nilifc]) [⟨67,[.ch 1,.p 0 1,.own 2 1 l.length]⟩,⟨1000001,CH.map .d⟩,byO l]:=by
 refine Eqn.gen [0,1,2] o_7k (by simp) (by simp) (by rfl) (by decide) (by simp) (by simp [V.lowl,V.low,byO]) ?_
 refine cc (c':=?z236) ?_ ?_
 case refine_1=>cbv<;>exact rfl
 try simp only [byO]
 have hb:=o_pj l hl
 have h1:¬l=[]:=h0
 have h2:l.length≤140737488355328:=by omega
 have hc:=ccheckZB CH
 refine A10 (fs hb (fs h1 h2)) ?_;try with_reducible exact tt
 refine CallS.g [0,1] (hc) (R1 (fs hb (fs h1 h2)) ?_);try with_reducible exact tt
set_option maxHeartbeats 4000000 in
theorem wstrB (CH:List D) (b l:List Nat) (hl:∀c∈l,c<256) (hn:b.length+l.length≤100000000):EqnD Tryz.prog o_7i [.p 0 1,.d (.str (bst l))] [⟨67,[.ch 1,.p 0 1,.own 2 1 b.length]⟩,⟨1000001,CH.map .d⟩,byO b] (.tup [.d (.int .i64 l.length),.d .nilifc]) [⟨67,[.ch 1,.p 0 1,.own 3 1 (b.length+l.length)]⟩,⟨1000001,CH.map .d⟩,byO b,byO (b++l)] [2]:=by
 refine Eqn.gen [0,1,2,3] o_7k (by simp) (by simp) (by rfl) (by decide) (by simp) (by simp [V.lowl,V.low,byO]) ?_
 refine cc (c':=?z237) ?_ ?_
 case refine_1=>cbv<;>exact rfl
 try simp only [byO]
 have hb:=o_pj l hl
 have h2:b.length+l.length≤140737488355328:=by omega
 have hc:=ccheckB CH b.length b
 have ha:=o_pi b l
 simp only [byO] at hc
 refine A10 (fs hb (fs h2 ha)) ?_;try with_reducible exact tt
 refine CallS.g [0,1,2] (hc) (R1 (fs hb (fs h2 ha)) ?_);try with_reducible exact tt
 all_goals (rw [←ha,o_pg];exact Subs.refl _)
set_option maxHeartbeats 4000000 in
theorem bstrZB (CH:List D):Eqn Tryz.prog o_7c [.p 0 1] [⟨67,[.ch 1,.d .nilp,.d .nilsl]⟩,⟨1000001,CH.map .d⟩] (.d (.str (bst []))) [⟨67,[.ch 1,.d .nilp,.d .nilsl]⟩,⟨1000001,CH.map .d⟩]:=by
 rw [show bst []=ByteArray.empty from rfl]
 refine Eqn.gen [0,1] o_7e (by simp) (by simp) (by rfl) (by decide) (by simp) (by simp [V.lowl,V.low,byO]) ?_
 refine cc (c':=?z240) ?_ ?_
 case refine_1=>cbv<;>exact rfl
 try simp only [byO]
 refine A00 ?_;try with_reducible exact tt
set_option maxHeartbeats 4000000 in
theorem bstrB (CH:List D) (b:List Nat) (hb:∀c∈b,c<256) (h0:b≠[]) (hn:b.length≤100000000):EqnD Tryz.prog o_7c [.p 0 1] [⟨67,[.ch 1,.p 0 1,.own 2 1 b.length]⟩,⟨1000001,CH.map .d⟩,byO b] (.d (.str (bst b))) [⟨67,[.ch 1,.p 0 1,.own 2 1 b.length]⟩,⟨1000001,CH.map .d⟩,byO b] [2]:=by
 refine Eqn.gen [0,1,2] o_7e (by simp) (by simp) (by rfl) (by decide) (by simp) (by simp [V.lowl,V.low,byO]) ?_
 refine cc (c':=?z241) ?_ ?_
 case refine_1=>cbv<;>exact rfl
 try simp only [byO]
 have h1:0<b.length:=List.length_pos_iff.2 h0
 have h2:¬b=[]:=h0
 have h3:(byV b).take b.length=byV b:=List.take_of_length_le (by simp)
 have h4:=o_pk b
 have h5:=o_pm b hb
 have h6:=o_pl b
 have h7:(b.length:Int)≤9223372036854775807:=by omega
 refine A10 (fs h1 (fs h2 (fs h3 (fs h4 (fs h5 (fs h6 h7)))))) ?_;try with_reducible exact tt
end
section
def spltN (c:Nat):List Nat→List (List Nat)
 | []=>[[]]
 | x::r=>if x=c then []::spltN c r else match spltN c r with
  | w::ws=>(x::w)::ws
  | []=>[[x]]
def joinN (c:Nat):List (List Nat)→List Nat
 | []=>[]
 | [w]=>w
 | w::v::r=>w++c::joinN c (v::r)
theorem o_pn (c:Nat) (w:List Nat) (r:List (List Nat)) (h:r≠[]):joinN c (w::r)=w++c::joinN c r:=by
 cases r with
 | nil=>exact absurd rfl h
 | cons v r=>rfl
theorem o_po (c:Nat):∀l,spltN c l≠[]
 | []=>by simp [spltN]
 | x::r=>by
  rw [spltN]
  split
  ·simp
  ·split<;>simp
theorem o_pp {c:Nat}:∀{l:List Nat},c∉l→spltN c l=[l]
 | [],_=>rfl
 | x::r,h=>by
  simp at h
  rw [spltN,if_neg (fun e=>h.1 e.symm),o_pp h.2]
theorem o_pq {c:Nat} {b:List Nat}:∀{a:List Nat},c∉a→spltN c (a++c::b)=a::spltN c b
 | [],_=>by simp [spltN]
 | x::r,h=>by
  simp at h
  rw [List.cons_append,spltN,if_neg (fun e=>h.1 e.symm),o_pq h.2]
theorem o_pr (c:Nat):∀l:List Nat,(spltN c l).length=l.count c+1
 | []=>rfl
 | x::r=>by
  rw [spltN]
  split
  ·rename_i h;subst h;rw [List.length_cons,o_pr,List.count_cons_self]
  ·rename_i h
   have:=o_pr c r
   rw [List.count_cons_of_ne (by exact h)]
   split
   ·rename_i w ws hw;rw [hw] at this;simpa using this
   ·rename_i hw;exact absurd hw (o_po c r)
theorem o_ps (c:Nat):∀l,joinN c (spltN c l)=l
 | []=>rfl
 | x::r=>by
  have ih:=o_ps c r
  rw [spltN]
  split
  ·rename_i h;subst h;rw [o_pn _ _ _ (o_po _ _),ih];rfl
  ·split
   ·rename_i w ws hw
    rw [hw] at ih
    cases ws with
    | nil=>simp only [joinN] at ih ⊢;rw [ih]
    | cons v ws=>simp only [joinN] at ih ⊢;rw [List.cons_append,ih]
   ·rename_i hw;exact absurd hw (o_po c r)
theorem o_pt (c:Nat):∀ws:List (List Nat),ws≠[]→(∀w∈ws,c∉w)→spltN c (joinN c ws)=ws
 | [],h,_=>absurd rfl h
 | [w],_,h=>o_pp (h w (by simp))
 | w::v::r,_,h=>by
  rw [joinN,o_pq (h w (by simp)),o_pt c (v::r) (by simp) fun x hx=>h x (by simp [hx])]
theorem o_pu {c:Nat}:∀{l w:List Nat},w∈spltN c l→c∉w∧∀x∈w,x∈l
 | [],w,h=>by simp [spltN] at h;subst h;simp
 | y::r,w,h=>by
  rw [spltN] at h
  split at h
  ·rcases List.mem_cons.1 h with rfl | h
   ·simp
   ·obtain ⟨h1,h2⟩:=o_pu h;exact ⟨h1,fun x hx=>by simp [h2 x hx]⟩
  ·rename_i hy
   split at h
   ·rename_i v ws hv
    rcases List.mem_cons.1 h with rfl | h
    ·obtain ⟨h1,h2⟩:=o_pu (show v∈spltN c r by rw [hv];simp)
     refine ⟨by simp [h1];exact fun e=>hy e.symm,?_⟩
     intro x hx
     rcases List.mem_cons.1 hx with rfl | hx
     ·simp
     ·simp [h2 x hx]
    ·obtain ⟨h1,h2⟩:=o_pu (show w∈spltN c r by rw [hv];simp [h]);exact ⟨h1,fun x hx=>by simp [h2 x hx]⟩
   ·rename_i hv;exact absurd hv (o_po c r)
def textM (c:CmdM):List Nat:=joinN 32 (textW c)
noncomputable def parseM (l:List Nat):Option CmdM:=parseW (spltN 32 l)
theorem o_pv (n:Nat) (h:n<16):dig n≠32:=by
 have:∀n,n<16→dig n≠32:=by decide
 exact this n h
theorem o_pw {c:CmdM} (hb:∀b∈c.bytes,b<256):∀w∈textW c,32∉w:=by
 have hword:∀op:Int,32∉wordN op:=by
  intro op h
  rcases (Classical.em (wordN op=[])) with e | e
  ·rw [e] at h;simp at h
  ·obtain ⟨k,_,_,h1,h2⟩:=o_o6 e
   rw [h2] at h
   have:∀k,k<10→32∉wordT.getD k []:=by decide
   exact this k h1 h
 have hI:∀v,32∉itoaN v:=fun v h=>by have:=o_nt v 32 h;omega
 have hK:∀v,32∉decN v:=fun v h=>by have:=o_no v 32 h;omega
 intro w h
 unfold textW at h
 split at h
 ·simp at h
 split at h
 ·split at h
  ·simp at h
  ·rcases List.mem_cons.1 h with rfl | h
   ·exact hword _
   ·obtain ⟨v,_,rfl⟩:=List.mem_map.1 h;exact hI v
 split at h
 ·simp only [List.mem_cons,List.not_mem_nil,or_false] at h
  rcases h with rfl | rfl
  ·exact hword _
  ·split
   ·simp
   ·intro h
    obtain ⟨x,hx,h⟩:=List.mem_flatMap.1 h
    simp at h
    have:=hb x hx
    rcases h with h | h
    ·exact o_pv _ (by omega) h.symm
    ·exact o_pv _ (by omega) h.symm
 ·rcases List.mem_cons.1 h with rfl | h
  ·exact hword _
  ·obtain ⟨f,_,rfl⟩:=List.mem_map.1 h
   cases f
   ·exact hI _
   ·exact hI _
   ·exact hI _
   ·exact hI _
   ·exact hK _
theorem o_px {c:CmdM} (g:c.Good):parseM (textM c)=if textW c=[] then none else some (plainM c):=by
 unfold parseM textM
 split
 ·rename_i h
  rw [h]
  simp [joinN,spltN,parseW]
  decide
 ·rename_i h
  rw [o_pt _ _ h (o_pw g.bytes),o_o8 g h]
theorem o_py {l:List Nat} {c:CmdM} (h:parseM l=some c):textM c=l:=by
 unfold parseM at h
 unfold textM
 rw [o_oa h,o_ps]
end
section
theorem o_pz (c:Nat) (hc:c<256):∀(l:List Nat),(∀x∈l,x<256)→(c∉l∧Lib.indexByte (u8l l) (UInt8.ofNat c) = -1)∨∃a b,l=a++c::b∧c∉a∧Lib.indexByte (u8l l) (UInt8.ofNat c)=(a.length:Int)
 | [],_=>.inl ⟨by simp,rfl⟩
 | x::l,h=>by
  have hx:=h x (by simp)
  by_cases e:x=c
  ·subst e
   refine .inr ⟨[],l,rfl,by simp,?_⟩
   show Lib.indexByte (UInt8.ofNat x::u8l l) (UInt8.ofNat x)=0
   unfold Lib.indexByte
   simp
  ·have he:¬(UInt8.ofNat x=UInt8.ofNat c):=fun h'=>e (by have:=congrArg UInt8.toNat h';rwa [o_od x hx,o_od c hc] at this)
   rcases o_pz c hc l fun y hy=>h y (by simp [hy]) with ⟨h1,h2⟩ | ⟨a,b,h1,h2,h3⟩
   ·refine .inl ⟨by simp [h1];exact fun h'=>e h'.symm,?_⟩
    show Lib.indexByte (UInt8.ofNat x::u8l l) (UInt8.ofNat c) = -1
    unfold Lib.indexByte
    simp [he,h2]
   ·refine .inr ⟨x::a,b,by rw [h1];rfl,by simp [h2];exact fun h'=>e h'.symm,?_⟩
    show Lib.indexByte (UInt8.ofNat x::u8l l) (UInt8.ofNat c)=_
    unfold Lib.indexByte
    simp [he,h3]
theorem o_q0 (c:Nat) (hc:c<256):∀(l:List Nat),(∀x∈l,x<256)→Lib.countByte (u8l l) (UInt8.ofNat c)=l.count c
 | [],_=>rfl
 | x::l,h=>by
  have ih:=o_q0 c hc l fun y hy=>h y (by simp [hy])
  have hx:=h x (by simp)
  unfold Lib.countByte at ih ⊢
  show List.count (UInt8.ofNat c) (UInt8.ofNat x::u8l l)=_
  by_cases e:x=c
  ·subst e;rw [List.count_cons_self,List.count_cons_self,ih]
  ·have he:¬(UInt8.ofNat x=UInt8.ofNat c):=fun h'=>e (by have:=congrArg UInt8.toNat h';rwa [o_od x hx,o_od c hc] at this)
   rw [List.count_cons_of_ne he,List.count_cons_of_ne e,ih]
theorem o_q1 (l:List Nat) (a b:Nat):(bst l).extract a b=bst ((l.drop a).take (b-a)):=by
 apply ByteArray.ext
 rw [ByteArray.data_extract]
 unfold bst
 simp [List.map_take,List.map_drop]
theorem o_q2 (l:List Nat):(bst l).toList=u8l l:=by
 rw [Lib.toList_data]
 rfl
theorem o_q3 (l:List Nat):(bst l).toList.isEmpty=l.isEmpty:=by
 rw [o_q2]
 cases l<;>rfl
theorem o_q4 {a b:List Nat} (ha:∀x∈a,x<256) (hb:∀x∈b,x<256):((bst a).toList==(bst b).toList)=decide (a=b):=by
 rw [o_q2,o_q2]
 by_cases h:a=b
 ·subst h;simp
 ·rw [decide_eq_false h,beq_eq_false_iff_ne]
  exact fun h'=>h (o_oo ha hb h')
end
section
def exitQ {β:Type} (id N:Nat) (T1:β→List V) (H1:β→List (Option Ob)) (R2:β→Prop) (Q:Exit→List V→List (Option Ob)→Prop):Exit→List V→List (Option Ob)→Prop
 | .exit j,T,H=>if j=id then ∃b,R2 b∧wk N T (T1 b)∧wkH N H (H1 b) else Q (.exit j) T H
 | .normal,_,_=>False
 | e,T,H=>Q e T H
attribute [simp] exitQ
end
section
open Go.RowKit
def strV (l:List (List Nat)):List V:=l.map fun w=>.d (.str (bst w))
def strD (l:List (List Nat)):List D:=l.map fun w=>.str (bst w)
theorem o_q5 (l:List (List Nat)):strV l=(strD l).map .d:=by simp [strV,strD]
@[simp] theorem o_q6 (θ:Nat→Nat) (l:List (List Nat)):V.rens θ (strV l)=strV l:=by rw [o_q5];exact o_6x θ _
@[simp] theorem o_q7 (k:Nat) (l:List (List Nat)):V.lowl k (strV l)=true:=by rw [o_q5];exact o_6y k _
@[simp] theorem o_q8 (l:List (List Nat)):(strV l).length=l.length:=by simp [strV]
@[simp] theorem o_q9 (l:List (List Nat)):(strD l).length=l.length:=by simp [strD]
def fillS (done:List (List Nat)) (n:Nat):List V:=strV (done++List.replicate n [])
theorem o_qa (done:List (List Nat)) (n:Nat) (w:List Nat) (i:Nat) (hi:i=done.length):(fillS done (n+1)).set i (.d (.str (bst w)))=fillS (done++[w]) n:=by
 subst hi
 unfold fillS strV
 simp [List.replicate_succ]
@[simp] theorem o_qb (done:List (List Nat)) (n:Nat):(fillS done n).length=done.length+n:=by simp [fillS]
@[simp] theorem o_qc (k:Nat) (d:List (List Nat)) (n:Nat):V.lowl k (fillS d n)=true:=o_q7 _ _
@[simp] theorem o_qd (θ:Nat→Nat) (d:List (List Nat)) (n:Nat):V.rens θ (fillS d n)=fillS d n:=o_q6 _ _
theorem o_qe (n:Nat):fillS [] n=List.replicate n (.d (.str ⟨#[]⟩)):=by
 unfold fillS strV
 rw [List.nil_append,List.map_replicate]
 rfl
theorem o_qf (n:Nat):sw n n=id:=by
 funext k
 unfold sw
 split
 ·rename_i h;exact h.symm
 ·rfl
theorem o_qg (n:Nat) (T:List V):swT n n T=T:=by
 unfold swT
 rw [o_qf];exact V.rens_id0 T
set_option maxHeartbeats 4000000 in
theorem o_qh (c:Nat) (hc:c<256) (l:List Nat) (hl:∀x∈l,x<256) (hn:l.length≤100000000) :
  Eqn Tryz.prog o_b4 [.d (.str (bst l)),.d (.str (bst [c])),.d (.int .i64 0),.d (.int .i64 (-1))] [] (.row 0 0 (spltN c l).length) [⟨9,strV (spltN c l)⟩]:=by
 refine Eqn.gen [0] o_b6 (by simp) (by simp) (by rfl) (by decide) (by simp) (by simp) ?_
 refine cc (c':=?z242) ?_ ?_
 case refine_1=>cbv<;>exact rfl
 have hcnt:=o_p2 (bst l) c hc
 rw [o_ob,o_q0 c hc l hl] at hcnt
 have hN:=o_pr c l
 have hcl:l.count c≤l.length:=List.count_le_length
 obtain ⟨N,hNe⟩:∃N,N=l.count c:=⟨_,rfl⟩
 rw [←hNe] at hcnt hN hcl
 have hsep:(bst [c])=⟨#[UInt8.ofNat c]⟩:=rfl
 have w1:IntKind.i64.wrap ((N:Int)+1)=(N:Int)+1:=w64 (by omega) (by omega)
 have w2:IntKind.i64.wrap ((l.length:Int)+1)=(l.length:Int)+1:=w64 (by omega) (by omega)
 have w3:min ((N:Int)+1) ((l.length:Int)+1)=(N:Int)+1:=by omega
 have hne:(bst [c]).toList.isEmpty=false:=o_q3 [c]
 refine A11 (fs hne (fs w1 (fs w2 w3))) hcnt ?_;try with_reducible exact tt
 refine AW.loopG (α:=List (List Nat)×List Nat) (fun s=>setS (List.replicate 66 .junk) [(0,.d (.str (bst s.2))),(1,.d (.str (bst [c]))),(2,.d (.int .i64 0)),(3,.d (.int .i64 N)),(9,.own 0 1 (N+1)),(10,.d (.int .i64 (s.1.length:Nat)))]) (fun s=>[some ⟨9,fillS s.1 (N+1-s.1.length)⟩]) (fun s=>spltN c l=s.1++spltN c s.2∧(∀x∈s.2,x<256)∧s.2.length≤l.length∧s.1.length+s.2.count c=N) (fun s=>s.2.count c) ([],l) ?_ ⟨rfl,hl,Nat.le_refl _,by simp [hNe]⟩ ?_ ?_ ?_
 ·intro s _;simp
 ·simp
 ·simp [o_qe]
  all_goals (rw [←o_qe];simp)
 rintro ⟨done,rest⟩ ⟨hs,hr,hrl,hd⟩
 simp only at hs hr hrl hd
 by_cases hi:done.length<N
 ·have hmem:c∈rest:=List.count_pos_iff.1 (by omega)
  obtain ⟨a,b,rfl,h2,h3⟩:=(o_pz c hc rest hr).resolve_left fun h=>h.1 hmem
  have hix:=o_p3 (bst (a++c::b)) c hc
  rw [o_ob,h3] at hix
  have hi1:(done.length:Int)<N:=by omega
  have hal:(a.length:Int)<100000001:=by simp at hrl;omega
  simp only [List.length_append,List.length_cons] at hrl
  have hca:a.count c=0:=List.count_eq_zero.2 h2
  have hcb:(a++c::b).count c=b.count c+1:=by rw [List.count_append,hca,List.count_cons_self];omega
  have e1:¬(a.length:Int)<0:=by omega
  have e2:IntKind.i64.wrap (a.length:Int)=a.length:=w64 (by omega) (by omega)
  have e3:IntKind.i64.wrap ((a.length:Int)+1)=(a.length:Int)+1:=w64 (by omega) (by omega)
  have e4:IntKind.i64.wrap ((done.length:Int)+1)=(done.length:Int)+1:=w64 (by omega) (by omega)
  have hx1:(bst (a++c::b)).extract 0 a.length=bst a:=by rw [o_q1];simp
  have hx2:(bst (a++c::b)).extract (a.length+1) ((a.length:Int)+((b.length:Int)+1)).toNat=bst b:=by
   rw [show ((a.length:Int)+((b.length:Int)+1)).toNat=a.length+(b.length+1) by omega,o_q1,show a.length+1=(a++[c]).length by simp,show a++c::b=(a++[c])++b by simp,List.drop_left,List.take_of_length_le (by simp;omega)]
  have hset:(fillS done (N+1-done.length)).set done.length (.d (.str (bst a)))=fillS (done++[a]) (N-done.length):=by
   rw [show N+1-done.length=(N-done.length)+1 by omega,o_qa done _ a _ rfl]
  have e6:(a.length:Int)+1≤(a.length:Int)+((b.length:Int)+1):=by omega
  simp
  refine A11 (fs hi1 (fs e1 (fs e2 (fs e3 (fs e4 (fs hx1 (fs hx2 hset))))))) hix ?_;try with_reducible exact tt
  refine ⟨done++[a],b,0,0,by simp,⟨?_,fun x hx=>hr x (by simp [hx]),by omega,by simp;omega⟩,by omega,?_,?_⟩
  ·rw [hs,o_pq h2,List.append_assoc];rfl
  ·rw [o_qg,show ((done++[a]).length:Nat)=done.length+1 by simp]
   simp
  ·simp [swH,sw,Ob.sw,V.ren,V.rens]
 ·have hi0:rest.count c=0:=by omega
  have hi1:¬(done.length:Int)<N:=by omega
  have hsp:spltN c rest=[rest]:=o_pp (List.count_eq_zero.1 hi0)
  have hdl:done.length=N:=by omega
  rw [hsp] at hs
  have hset:(fillS done (N+1-done.length)).set done.length (.d (.str (bst rest)))=strV (done++[rest]):=by
   rw [show N+1-done.length=0+1 by omega,o_qa done _ rest _ rfl];simp [fillS]
  rw [hdl,show N+1-N=1 by omega] at hset
  rw [hs]
  have e7:(done++[rest]).length=N+1:=by simp [hdl]
  simp [hdl]
  refine A10 (fs hi1 (fs hset (fs hdl w1))) ?_;try with_reducible exact tt
theorem o_qi (c:Nat) (hc:c<256) (l:List Nat) (hl:∀x∈l,x<256) (hn:l.length≤100000000) :
  Eqn Tryz.prog o_ay [.d (.str (bst l)),.d (.str (bst [c]))] [] (.row 0 0 (spltN c l).length) [⟨9,strV (spltN c l)⟩]:=by
 refine Eqn.gen [0] o_b0 (by simp) (by simp) (by rfl) (by decide) (by simp) (by simp) ?_
 refine cc (c':=?z243) ?_ ?_
 case refine_1=>cbv<;>exact rfl
 have hg:=o_qh c hc l hl hn
 refine A00 ?_;try with_reducible exact tt
 refine CallS.g [] (hg) (R0 ?_);try with_reducible exact tt
end
section
open Go.RowKit Go.Conc
set_option maxHeartbeats 4000000 in
theorem o_qj (w:World) (b c cap sn rn:Nat) (buf:Array Value) (v:ByteArray) (hb:w.cell? ⟨b,0,none⟩=some (.chan (some c))) (hc:w.heap[c]?=some (.chan cap buf false sn rn false)) (hroom:buf.size<cap) :
  Calls Tryz.prog o_7r #[.pointer (some ⟨b,0,none⟩),.string v] w fun e w'=>e = .returned (.tuple #[])∧w'=w.setChan c cap (buf.push (.string v)) false (sn+1) rn false:=by
 refine calls_of_loneTo fun cs=>?_
 have e:Frame.enter Tryz.prog o_7r #[.pointer (some ⟨b,0,none⟩),.string v] .normal=(base o_7r).at ⟨#[.pointer (some ⟨b,0,none⟩),.string v,undef,undef,undef,undef,undef,undef,undef,undef,undef,undef,undef,undef,undef,undef,undef,undef,undef],[]⟩ [.code (Tryz.f21.body.getD .skip)]:=by
  simp [Frame.enter,Frame.at,Tryz.func21,base,Tryz.f21]
 rw [e]
 have a1:=Tryz.isAgg62
 have a2:=Tryz.sizeOf62
 have a3:=Tryz.underlying67
 have a4:=Tryz.zeroValue9
 refine LoneTo.goes (n:=50) ?_
 simp only [Tryz.f21,Option.getD_some]
 s_c stepG_seq
 s_c stepG_seq
 s_reg
 s_op
 s_op
 s_op
 s_op
 s_c stepG_region_end
 s_reg
 s_op
 s_c stepG_region_end
 s_c stepG_seq
 s_reg
 s_stop
 refine LoneTo.step (step_lone_select_send_room (c:=c) (cap:=cap) (buf:=buf) (s:=sn) (r:=rn) (tm:=false) (v:=.string v) (z':=.string ⟨#[]⟩) (stepG_comm (cases:=#[scase c (.string v) (.string ⟨#[]⟩)]) (blocking:=false) (shape:=.select) (w':=w) rfl rfl (by decide) (by simp [go_sem,execOp,scase,Act.eval,a4])) hc hroom) ?_
 rw [Frame.finish_at]
 walk_nrm
 refine LoneTo.goes (n:=30) ?_
 s_op
 s_op
 s_c stepG_region_end
 s_c stepG_block
 s_cond true
 s_c stepG_skip
 s_c stepG_inBlock
 s_c stepG_end
 s_stop
 exact LoneTo.done ⟨.returned (.tuple #[]),_,rfl,⟨rfl,rfl⟩,rfl,rfl,rfl,rfl,_,Tryz.func21,by simp [results,Tryz.f21,Frame.at]⟩
end
section
open Go.RowKit Go.Conc
theorem LoneTo.call {P:Program} {Q:Goroutine→World→Prop} {f:FuncId} {args:Array Value} {w:World} {R:Ending→World→Prop} {c:Frame} {cs:List Frame} (h:Calls P f args w R)
  (hR:∀e w',R e w'→∃v,e = .returned v∧LoneTo P Q (G (c.finish v) cs) w'):LoneTo P Q (G (Frame.enter P f args .normal) (c::cs)) w:=by
 obtain ⟨e,w',fr,h1,h2,h3,h4⟩:=h (c::cs)
 obtain ⟨v,rfl,g',w2,h5,h6⟩:=hR e w' h1
 have h2':Steps P (lone (Frame.enter P f args .normal) (c::cs) w) (lone fr (c::cs) w'):=h2
 exact ⟨g',w2,Steps.trans h2' (Steps.head (step_leave_returned h4) h5),h6⟩
def chO (bufs:List ByteArray):Ob:=⟨1000001,((.int .i64 64::bufs.map .str:List D)).map .d⟩
theorem o_qk {m:Mem}:∀{l:List ByteArray} {vs:List Value},V.reps m ((l.map D.str).map .d) vs→vs=l.map .string
 | [],vs,h=>by simpa using h
 | x::l,vs,h=>by
  obtain ⟨v,r,rfl,h1,h2⟩:=V.reps_cons'.1 h
  rw [o_qk h2,repStr h1];rfl
theorem o_ql {m:Mem}:∀(l:List ByteArray),V.reps m ((l.map D.str).map .d) (l.map .string)
 | []=>by simp
 | x::l=>V.reps_cons.2 ⟨by rw [V.rep_d];unfold D.rep;rfl,o_ql l⟩
theorem objCh (vs more:List Value):objOf 1000001 vs more=chanOf vs more:=by
 unfold objOf TG
 rw [if_neg (by omega),if_neg (by omega),if_pos rfl]
theorem o_qm {m:Mem} {n:Nat} {bufs:List ByteArray} (h:m.obj n (chO bufs)):∃c s r,m.ρ n=some c∧m.w.heap[c]?=some (.chan 64 (bufs.map Value.string).toArray false s r false)∧¬m.I c:=by
 obtain ⟨c,vs,more,h1,h2,h3,h4,h5⟩:=h
 obtain ⟨v,r,rfl,h6,h7⟩:=V.reps_cons'.1 h4
 rw [repInt h6,o_qk h7] at h2
 have e:∃s r,objOf (chO bufs).T (.int .i64 64::bufs.map .string) more = .chan 64 (bufs.map Value.string).toArray false s r false:=by
  rw [show (chO bufs).T=1000001 from rfl,objCh]
  unfold chanOf
  split
  ·rename_i h;cases h;exact ⟨_,_,rfl⟩
  ·rename_i h _;cases h;exact ⟨_,_,rfl⟩
  ·rename_i h1 h2;exact absurd rfl (h1 _ _)
 obtain ⟨s,r,e⟩:=e
 exact ⟨c,s,r,h1,by rw [h2,e],h5⟩
theorem o_qn {m:Mem} {n:Nat} {bufs:List ByteArray} (buf':List ByteArray) (hb:m.base) (h:m.obj n (chO bufs)) {c s r:Nat} (hc:m.ρ n=some c) (hh:m.w.heap[c]?=some (.chan 64 (bufs.map Value.string).toArray false s r false)) (hI:¬m.I c) (s' r':Nat) :
  (⟨m.ρ,m.I,m.w.setChan c 64 (buf'.map Value.string).toArray false s' r' false⟩:Mem).base∧m.le ⟨m.ρ,m.I,m.w.setChan c 64 (buf'.map Value.string).toArray false s' r' false⟩ (· = n)∧(⟨m.ρ,m.I,m.w.setChan c 64 (buf'.map Value.string).toArray false s' r' false⟩:Mem).obj n (chO buf'):=by
 have hlt:c<m.w.heap.size:=hb.dom n c hc
 have hne:∀j,j≠c→(m.w.setChan c 64 (buf'.map Value.string).toArray false s' r' false).heap[j]?=m.w.heap[j]?:=fun j hj=>by
  unfold World.setChan
  simp only [Array.getElem?_setIfInBounds]
  rw [if_neg (by omega)]
 have hsz:=size_setChan m.w c 64 (buf'.map Value.string).toArray false s' r' false
 have hself:=heap_setChan m.w c 64 (buf'.map Value.string).toArray false s' r' false hlt
 have hle:m.le ⟨m.ρ,m.I,m.w.setChan c 64 (buf'.map Value.string).toArray false s' r' false⟩ (· = n):=by
  refine ⟨fun _ _ h=>h,fun _ h=>h,rfl,rfl,rfl,trivial,by rw [hsz];exact Nat.le_refl _,fun j hj hn=>hne j fun e=>hn n rfl (e▸hc),fun j hj=>?_,fun j hj=>hne j fun e=>hI (e▸hj),fun _ h=>.inl h,fun _ _ h=>.inl h⟩
  by_cases e:j=c
  ·subst e
   unfold World.shape?
   simp only [hself,hh]
  ·unfold World.shape?
   simp only [hne j e]
 refine ⟨⟨fun j hj=>?_,fun j b hj=>?_,hb.tabs.le hle⟩,hle,c,.int .i64 64::buf'.map .string,[.int .i64 s',.int .i64 r'],hc,?_,?_,?_,hI⟩
 ·simp only [hsz];exact hb.imm j hj
 ·simp only [hsz];exact hb.dom j b hj
 ·simp only [hself]
  rw [show (chO buf').T=1000001 from rfl,objCh]
  rfl
 ·intro u hu
  rcases List.mem_cons.1 hu with rfl | hu
  ·rfl
  ·obtain ⟨x,_,rfl⟩:=List.mem_map.1 hu;rfl
 ·exact V.reps_cons.2 ⟨by rw [V.rep_d];unfold D.rep;rfl,o_ql _⟩
end
section
open Go.RowKit Go.Conc
def unBlk:Code→Code | .block _ c=>c | c=>c
def unLp:Code→Code | .loop c=>c | c=>c
noncomputable def flB:Code:=unLp (unBlk (Tryz.f25.body.getD .skip))
def boxZ:Ob:=⟨67,[.ch 1,.d .nilp,.d .nilsl]⟩
def boxU (n:Nat):Ob:=⟨67,[.ch 1,.p 0 1,.own 2 1 n]⟩
structure Fl (m0 m:Mem) (bufs:List (List Nat)) (acc:Option (List Nat)):Prop where
 base:m.base
 le:m0.le m (· < 2)
 ch:m.obj 1 (chO (bufs.map bst))
 box:match acc with
  | none=>m.obj 0 boxZ
  | some a=>m.obj 0 (boxU a.length)∧m.obj 2 (byO a)
 top:∀n,3≤n→m.ρ n=none
 top2:acc=none→m.ρ 2=none
 inj:∀n i b,m.ρ n=some b→m.ρ i=some b→n=i
 new:∀b,m.ρ 2=some b→m0.w.heap.size≤b
 top0:∀n,2≤n→m0.ρ n=none
def FlEnd (m0:Mem) (acc:Option (List Nat)) (cs:List Frame) (g':Goroutine) (w':World):Prop :=
 ∃e fr,g'=G fr cs∧(e = .returned (.tuple #[])∧∃m,m.w=w'∧Fl m0 m [] acc)∧fr.fn=o_7o∧fr.leaving Tryz.prog w' e
theorem o_qo {m:Mem} {A B:V} (h:m.obj 0 ⟨67,[.ch 1,A,B]⟩):∃b c,m.ρ 0=some b∧m.ρ 1=some c∧m.w.cell? ⟨b,0,none⟩=some (.chan (some c)):=by
 obtain ⟨b,vs,more,h1,h2,h3,h4,h5⟩:=h
 rw [o_0 (show (67:Nat)<TG by decide)] at h2
 obtain ⟨v,r,rfl,h6,h7⟩:=V.reps_cons'.1 h4
 unfold V.rep at h6
 obtain ⟨c,h8,rfl⟩:=h6
 exact ⟨b,c,h1,h8,o_7 h2 rfl⟩
def linesN (l:List (List Nat)):List Nat:=l.flatMap fun s=>s++[10]
set_option maxHeartbeats 8000000 in
theorem o_qp (m0 m:Mem) (acc:Option (List Nat)) (h:Fl m0 m [] acc) (b:Nat) (hb:m.ρ 0=some b) (cs:List Frame) (j1 j2 j3 j4 j5 j6 j7 j8 j9 j10 j11 j12 j13 j14 j15 j16:Value) :
  LoneTo Tryz.prog (FlEnd m0 acc cs) (G ((base o_7o).at ⟨#[.pointer (some ⟨b,0,none⟩),j1,j2,j3,j4,j5,j6,j7,j8,j9,j10,j11,j12,j13,j14,j15,j16],[]⟩ [.code flB,.inLoop flB,.inBlock 0]) cs) m.w:=by
 obtain ⟨b',c,h1,h2,h3⟩:∃b' c,m.ρ 0=some b'∧m.ρ 1=some c∧m.w.cell? ⟨b',0,none⟩=some (.chan (some c)):=by
  have:=h.box
  cases acc with
  | none=>exact o_qo this
  | some a=>exact o_qo this.1
 rw [hb] at h1;cases h1
 obtain ⟨c',s,r,k1,k2,k3⟩:=o_qm h.ch
 rw [h2] at k1;cases k1
 have hch:m.w.heap[c]?=some (.chan 64 #[] false s r false):=k2
 obtain ⟨w,hw⟩:∃w,w=m.w:=⟨_,rfl⟩
 rw [←hw] at h3 hch ⊢
 have HW:Go.RowKit.Hid (w=m.w):=hw
 clear hw k2
 have a1:=Tryz.isAgg62
 have a2:=Tryz.sizeOf62
 have a3:=Tryz.underlying67
 have a4:=Tryz.zeroValue9
 refine LoneTo.goes (n:=50) ?_
 simp only [flB,Tryz.f25,Option.getD_some,unBlk,unLp]
 s_c stepG_block
 s_c stepG_seq
 s_reg
 s_op
 s_op
 s_op
 s_op
 s_c stepG_region_end
 s_c stepG_seq
 s_reg
 s_stop
 refine LoneTo.step (step_lone_select_default (c:=c) (cap:=64) (s:=s) (r:=r) (tm:=false) (z:=.string ⟨#[]⟩) (stepG_comm (cases:=#[rcase c (.string ⟨#[]⟩)]) (blocking:=false) (shape:=.select) (w':=w) rfl rfl (by decide) (by simp [go_sem,execOp,rcase,Act.eval,a4])) hch) ?_
 rw [Frame.finish_at]
 walk_nrm
 refine LoneTo.goes (n:=30) ?_
 s_op
 s_op
 s_c stepG_region_end
 s_c stepG_block
 s_cond false
 s_c stepG_ret'
 s_stop
 exact LoneTo.done ⟨.returned (.tuple #[]),_,rfl,⟨rfl,m,HW.out.symm,h⟩,rfl,rfl,rfl,rfl,_,Tryz.func25,by simp [results,Tryz.f25,Frame.at]⟩
end
section
open Go.RowKit Go.Conc
def accF:Option (List Nat)→List (List Nat)→Option (List Nat)
 | a,[]=>a
 | a,t::r=>accF (some (a.getD []++(t++[10]))) r
def thR (n:Nat):Nat:=if n<2 then n else n+1
theorem o_qq {m:Mem} {T:TypeId} {c:List V} {n:Nat} (h:m.obj (thR n) ⟨T,V.rens thR c⟩):(⟨fun n=>m.ρ (thR n),m.I,m.w⟩:Mem).obj n ⟨T,c⟩:=by
 obtain ⟨b,vs,more,h1,h2,h3,h4,h5⟩:=h
 exact ⟨b,vs,more,h1,h2,h3,(V.reps_rent (m:=m) (m':=⟨fun n=>m.ρ (thR n),m.I,m.w⟩) (θ:=thR) rfl rfl (fun _=>rfl) c vs).1 h4,h5⟩
theorem o_qr {m0 m:Mem} {bufs:List (List Nat)} {acc:Option (List Nat)} (t:List Nat) (ht:∀x∈t,x<256) (hlen:(acc.getD []).length+(t.length+1)≤100000000) (h:Fl m0 m bufs acc) (b:Nat) (hb:m.ρ 0=some b) :
  Calls Tryz.prog o_7i #[.pointer (some ⟨b,1,none⟩),.string (bst (t++[10]))] m.w fun e w'=>∃v m',e = .returned v∧m'.w=w'∧Fl m0 m' bufs (some (acc.getD []++(t++[10])))∧m'.ρ 0=some b:=by
 have hreps:V.reps m [.p 0 1,.d (.str (bst (t++[10])))] [.pointer (some ⟨b,1,none⟩),.string (bst (t++[10]))] :=
  V.reps_cons.2 ⟨by unfold V.rep;exact ⟨b,hb,rfl⟩,V.reps_cons.2 ⟨by rw [V.rep_d];unfold D.rep;rfl,V.reps_nil.2 rfl⟩⟩
 have htb:∀x∈t++[10],x<256:=by
  intro x hx
  rcases List.mem_append.1 hx with hx | hx
  ·exact ht x hx
  ·simp at hx;omega
 cases acc with
 | none =>
  simp at hlen
  have E:=wstrZB (.int .i64 64::bufs.map fun s=>.str (bst s)) (t++[10]) htb (by simp) (by simp;omega)
  have hch:m.obj 1 ⟨1000001,((.int .i64 64::bufs.map fun s=>.str (bst s):List D)).map .d⟩:=by
   have:=h.ch;unfold chO at this;rw [List.map_map] at this;exact this
  have hob:∀n ob,([⟨67,[.ch 1,.d .nilp,.d .nilsl]⟩,⟨1000001,((.int .i64 64::bufs.map fun s=>.str (bst s):List D)).map .d⟩]:List Ob)[n]?=some ob→m.obj n ob:=fun n ob hn=>by
   match n,hn with
   | 0,hn=>cases hn;exact h.box
   | 1,hn=>cases hn;exact hch
   | n+2,hn=>simp at hn
  have htp:∀n,2≤n→m.ρ n=none:=fun n hn=>by
   rcases Nat.lt_or_ge n 3 with k | k
   ·obtain rfl:n=2:=by omega
    exact h.top2 rfl
   ·exact h.top n k
  rcases E.run m _ h.base hreps hob (fun n i b' _ _ h1 h2=>h.inj n i b' h1 h2) htp with ⟨v,h1,_⟩ | ⟨_,h2⟩
  ·exact absurd h1 (by rw [o_ow o_7k];simp)
  ·refine h2.mono ?_
   rintro e w' ⟨v,m',rfl,rfl,hE⟩
   have o0:=hE.obj 0 _ (by simp) rfl
   have o1:=hE.obj 1 _ (by simp) rfl
   have o2:=hE.obj 2 _ (by simp) rfl
   refine ⟨v,m',rfl,rfl,⟨hE.base,h.le.trans hE.le fun n b _ h=>h,?_,⟨o0,o2⟩,fun n hn=>hE.top n hn,by simp,fun n i b' h1 h2=>?_,fun b' hb'=>?_,h.top0⟩,hE.le.ρ 0 b hb⟩
   ·unfold chO;rw [List.map_map];exact o1
   ·rcases Nat.lt_or_ge n 3 with hn | hn
    ·rcases Nat.lt_or_ge i 3 with hi | hi
     ·exact hE.inj n i b' (by simp) (by simp) hn hi h1 h2
     ·rw [hE.top i hi] at h2;cases h2
    ·rw [hE.top n hn] at h1;cases h1
   ·rcases hE.new 2 b' (by simp) hb' with k | ⟨i,_,k,_⟩
    ·exact Nat.le_trans h.le.size k
    ·simp at k
 | some a =>
  simp at hlen
  have E:=wstrB (.int .i64 64::bufs.map fun s=>.str (bst s)) a (t++[10]) htb (by simp;omega)
  have hch:m.obj 1 ⟨1000001,((.int .i64 64::bufs.map fun s=>.str (bst s):List D)).map .d⟩:=by
   have:=h.ch;unfold chO at this;rw [List.map_map] at this;exact this
  have hob:∀n ob,([⟨67,[.ch 1,.p 0 1,.own 2 1 a.length]⟩,⟨1000001,((.int .i64 64::bufs.map fun s=>.str (bst s):List D)).map .d⟩,byO a]:List Ob)[n]?=some ob→m.obj n ob:=fun n ob hn=>by
   match n,hn with
   | 0,hn=>cases hn;exact h.box.1
   | 1,hn=>cases hn;exact hch
   | 2,hn=>cases hn;exact h.box.2
   | n+3,hn=>simp at hn
  rcases E.run m _ h.base hreps hob (fun n i b' _ _ h1 h2=>h.inj n i b' h1 h2) (fun n hn=>h.top n (by simpa using hn)) with ⟨v,h1,_⟩ | ⟨_,h2⟩
  ·exact absurd h1 (by rw [o_ow o_7k];simp)
  ·refine h2.mono ?_
   rintro e w' ⟨v,m',rfl,rfl,hE⟩
   have o0:=hE.obj 0 _ (by simp) rfl
   have o1:=hE.obj 1 _ (by simp) rfl
   have o3:=hE.obj 3 _ (by simp) rfl
   have hth:∀n,thR n≠2:=fun n=>by unfold thR;split<;>omega
   have hle:m0.le m' (· < 2):=h.le.trans hE.le fun n b' hn hn3=>by
    rcases Nat.lt_or_ge n 2 with k | k
    ·exact k
    ·have:=h.top0 n k
     rw [this] at hn;cases hn
   have hth3:∀n,3≤n→m'.ρ (thR n)=none:=fun n hn=>by
    unfold thR
    rw [if_neg (by omega)];exact hE.top (n+1) (by simp;omega)
   refine ⟨v,⟨fun n=>m'.ρ (thR n),m'.I,m'.w⟩,rfl,rfl,⟨⟨hE.base.imm,fun n b' hn=>hE.base.dom _ b' hn,hE.base.tabs⟩,?_,?_,⟨?_,?_⟩,hth3,by simp,fun n i b' h1 h2=>?_,fun b' hb'=>?_,h.top0⟩,hE.le.ρ 0 b hb⟩
   ·refine ⟨fun n b' hn=>?_,hle.I,hle.os,hle.tape,hle.output,hle.drawn,hle.size,hle.block,hle.shape,hle.imm,hle.newI,fun n b' hn=>?_⟩
    rotate_left
    ·have hn':m'.ρ (thR n)=some b':=hn
     rcases hle.newρ _ b' hn' with k | k
     ·left
      rcases Nat.lt_or_ge n 2 with q | q
      ·rwa [show thR n=n from if_pos q] at k
      ·rw [show thR n=n+1 from if_neg (by omega),h.top0 _ (by omega)] at k;cases k
     ·exact .inr k
    rcases Nat.lt_or_ge n 2 with k | k
    ·have:=hle.ρ n b' hn
     show m'.ρ (thR n)=some b'
     rw [show thR n=n from if_pos k];exact this
    ·rw [h.top0 n k] at hn;cases hn
   ·unfold chO;rw [List.map_map]
    exact o_qq (by rw [o_6x];exact o1)
   ·have e:((some a).getD []++(t++[10])).length=a.length+(t++[10]).length:=List.length_append
    have o0':m'.obj 0 ⟨67,[.ch 1,.p 0 1,.own 3 1 ((some a).getD []++(t++[10])).length]⟩:=by rw [e];exact o0
    exact o_qq o0'
   ·exact o_qq (c:=byV _) (by rw [o_pg];exact o3)
   ·have hlt:∀n b',m'.ρ (thR n)=some b'→thR n<4:=fun n b' hn=>by
     rcases Nat.lt_or_ge (thR n) 4 with k | k
     ·exact k
     ·rw [hE.top _ k] at hn;cases hn
    have:=hE.inj (thR n) (thR i) b' (by simp [hth]) (by simp [hth]) (hlt n b' h1) (hlt i b' h2) h1 h2
    unfold thR at this
    split at this<;>split at this<;>omega
   ·rcases hE.new 3 b' (by simp) hb' with k | ⟨i,_,k,k2⟩
    ·exact Nat.le_trans h.le.size k
    ·simp at k;subst k;exact h.new b' k2
end
section
open Go.RowKit Go.Conc
theorem o_qs (w:World) (s:ByteArray) (hs:s.size≤100000000):(binOp .add 9 (.string s) (.string ⟨#[10]⟩)).run Tryz.prog w = .ok (.string (s++⟨#[10]⟩)) w:=by
 have h:=Tryz.underlying9
 have h1:¬(9223372036854775807<s.size+(⟨#[10]⟩:ByteArray).size):=by
  have:(⟨#[10]⟩:ByteArray).size=1:=rfl
  omega
 simp [binOp,run_underlying h,Op.stringOp]
 omega
set_option maxHeartbeats 16000000 in
theorem o_qt (m0:Mem) (b:Nat) (cs:List Frame):∀(bufs:List (List Nat)) (acc:Option (List Nat)) (m:Mem),Fl m0 m bufs acc→m.ρ 0=some b→(∀t∈bufs,∀x∈t,x<256)→(acc.getD []).length+(linesN bufs).length≤100000000 →
  ∀(j1 j2 j3 j4 j5 j6 j7 j8 j9 j10 j11 j12 j13 j14 j15 j16:Value),
  LoneTo Tryz.prog (FlEnd m0 (accF acc bufs) cs) (G ((base o_7o).at ⟨#[.pointer (some ⟨b,0,none⟩),j1,j2,j3,j4,j5,j6,j7,j8,j9,j10,j11,j12,j13,j14,j15,j16],[]⟩ [.code flB,.inLoop flB,.inBlock 0]) cs) m.w
 | [],acc,m,h,hb,_,_=>fun j1 j2 j3 j4 j5 j6 j7 j8 j9 j10 j11 j12 j13 j14 j15 j16=>o_qp m0 m acc h b hb cs _ _ _ _ _ _ _ _ _ _ _ _ _ _ _ _
 | t::rest,acc,m,h,hb,hby,hlen=>fun j1 j2 j3 j4 j5 j6 j7 j8 j9 j10 j11 j12 j13 j14 j15 j16=>by
  obtain ⟨b',c,h1,h2,h3⟩:∃b' c,m.ρ 0=some b'∧m.ρ 1=some c∧m.w.cell? ⟨b',0,none⟩=some (.chan (some c)):=by
   have:=h.box
   cases acc with
   | none=>exact o_qo this
   | some a=>exact o_qo this.1
  rw [hb] at h1;cases h1
  obtain ⟨c',s,r,k1,k2,k3⟩:=o_qm h.ch
  rw [h2] at k1;cases k1
  obtain ⟨e1,e2,e3⟩:=o_qn (rest.map bst) h.base h.ch h2 k2 k3 s (r+1)
  have hlin:(linesN (t::rest)).length=t.length+1+(linesN rest).length:=by simp [linesN];omega
  have hne:∀(n:Nat) (ob:Ob),n≠1→m.obj n ob→(⟨m.ρ,m.I,m.w.setChan c 64 ((rest.map bst).map Value.string).toArray false s (r+1) false⟩:Mem).obj n ob:=fun n ob hn ho=>Mem.obj_keep h.base e2 (fun k b hk hn'=>by
   subst hk
   intro hk2
   exact hn (h.inj n 1 b hn' hk2)) ho
  have F:Fl m0 ⟨m.ρ,m.I,m.w.setChan c 64 ((rest.map bst).map Value.string).toArray false s (r+1) false⟩ rest acc:=by
   refine ⟨e1,h.le.trans e2 fun n b' hn h1=>by omega,e3,?_,h.top,h.top2,h.inj,h.new,h.top0⟩
   have:=h.box
   cases acc with
   | none=>exact hne 0 _ (by decide) this
   | some a=>exact ⟨hne 0 _ (by decide) this.1,hne 2 _ (by decide) this.2⟩
  have W:=o_qr t (hby t (by simp)) (by rw [hlin] at hlen;omega) F b hb
  have hsz:(bst t).size≤100000000:=by rw [o_gj];rw [hlin] at hlen;omega
  have hcat:=fun w=>o_qs w (bst t) hsz
  have hst:bst t++⟨#[10]⟩=bst (t++[10]):=o_gi t [10]
  rw [hst] at hcat
  have hch:m.w.heap[c]?=some (.chan 64 (((t::rest).map bst).map Value.string).toArray false s r false):=k2
  have hx1:((((t::rest).map bst).map Value.string).toArray).getD 0 undef = .string (bst t):=rfl
  have hx2:((((t::rest).map bst).map Value.string).toArray).extract 1 ((((t::rest).map bst).map Value.string).toArray).size=((rest.map bst).map Value.string).toArray:=by
   simp
   exact List.take_of_length_le (by simp)
  have hx3:0<((((t::rest).map bst).map Value.string).toArray).size:=by simp
  generalize (((t::rest).map bst).map Value.string).toArray=BUF at *
  obtain ⟨w1,hw1⟩:∃w1,w1=m.w.setChan c 64 ((rest.map bst).map Value.string).toArray false s (r+1) false:=⟨_,rfl⟩
  rw [←hx2] at hw1
  clear e1 e2 e3 hne
  have IH:=o_qt m0 b cs rest (some (acc.getD []++(t++[10])))
  have hlt:¬(9223372036854775807<t.length+1):=by rw [hlin] at hlen;omega
  have a1:=Tryz.isAgg62
  have a2:=Tryz.sizeOf62
  have a3:=Tryz.underlying67
  have a4:=Tryz.zeroValue9
  have HW:Go.RowKit.Hid (w1=m.w.setChan c 64 (BUF.extract 1 BUF.size) false s (r+1) false):=hw1
  rw [hx2] at hw1
  rw [←hw1] at W
  clear hw1
  refine LoneTo.goes (n:=50) ?_
  simp only [flB,Tryz.f25,Option.getD_some,unBlk,unLp]
  s_c stepG_block
  s_c stepG_seq
  s_reg
  s_op
  s_op
  s_op
  s_op
  s_c stepG_region_end
  s_c stepG_seq
  s_reg
  s_stop
  refine LoneTo.step (step_lone_select_recv_buf (c:=c) (cap:=64) (s:=s) (r:=r) (tm:=false) (closed:=false) (z:=.string ⟨#[]⟩) (buf:=BUF) (stepG_comm (cases:=#[rcase c (.string ⟨#[]⟩)]) (blocking:=false) (shape:=.select) (w':=m.w) rfl rfl (by decide) (by simp [go_sem,execOp,rcase,Act.eval,a4])) hch hx3) ?_
  rw [Frame.finish_at,hx1,←HW.out]
  walk_nrm
  refine LoneTo.goes (n:=50) ?_
  s_op
  s_op
  s_c stepG_region_end
  s_c stepG_block
  s_cond true
  s_c stepG_seq
  s_reg
  s_op
  s_op
  s_c stepG_region_end
  s_reg
  s_op
  s_op
  s_op
  s_op
  s_op
  s_in
  refine goes_call rfl rfl (by decide) rfl Tryz.func42 rfl rfl ⟨trivial,?_⟩
  rw [←enter_at _ Tryz.func42 rfl]
  s_stop
  walk_nrm
  refine LoneTo.call W ?_
  rintro e' w2 ⟨v,m2,rfl,rfl,hF,hb2⟩
  refine ⟨v,rfl,?_⟩
  rw [Frame.finish_at]
  walk_nrm
  refine LoneTo.goes (n:=30) ?_
  s_c stepG_region_end
  s_c stepG_inBlock
  s_c stepG_inBlock
  s_c stepG_inLoop
  s_stop
  exact IH m2 hF hb2 (fun t' ht'=>hby t' (by simp [ht'])) (by rw [hlin] at hlen;simp;omega) _ _ _ _ _ _ _ _ _ _ _ _ _ _ _ _
end
section
open Go.RowKit
theorem AW.meet {P:Program} {L:Nat} {Q Q2:Exit→List V→List (Option Ob)→Prop} {T:List V} {H:List (Option Ob)} {x y:C} (T1:List V) (H1:List (Option Ob)) (hL:L≤H1.length)
  (h1:AW P L x (thenQ (fun T' H'=>wk H1.length T' T1∧wkH H1.length H' H1) Q) T H) (h2:AW P L y Q2 T1 H1):AW P L x (thenQ (AW P L y Q2) Q) T H:=by
 intro code hc m0 m a sat hle htop hL'
 refine wp_mono (h1 code hc m0 m a sat hle htop hL') ?_
 rintro e a' w' ⟨T',H',m',rfl,hq,rest⟩
 refine ⟨T',H',m',rfl,?_,rest⟩
 cases e with
 | normal =>
  obtain ⟨w1,w2⟩:=hq
  exact AW.weak (Weak.of w1 w2) hL h2
 | _=>exact hq
end
section
open Go.RowKit
def mlF : List (TypeId × String × FuncId) := [(425, "tallymark/chain.good", o_7x), (425, "tallymark/chain.step", o_7z), (425, "tallymark/chain.reply", o_7y), (425, "tallymark/chain.value", o_80), (425, "tallymark/chain.chance", o_7w), (425, "tallymark/chain.again", o_7v)]
theorem o_qu:∀e∈mlF,MethOK Tryz.prog e.1 e.2.1 e.2.2:=by
 unfold mlF
 simp only [List.forall_mem_cons]
 exact ⟨fun v w=>by kernel_rfl,fun v w=>by kernel_rfl,fun v w=>by kernel_rfl,fun v w=>by kernel_rfl,fun v w=>by kernel_rfl,fun v w=>by kernel_rfl,by simp⟩
def fzF (f:FuncId):Bool:=Nat.beq f o_7y
theorem o_qv {f:FuncId} {args:List V} {Hs:List Ob} {X:V} {Hs':List Ob} {dead:List Nat} (h:evF (tblP Tryz.prog) fzF (evCl (tblP Tryz.prog) fzF (orcB o_9i o_9z o_a1) (mtL mlF) 3000 60) (mtL mlF) 3000 f args Hs=some (X,Hs',dead)):EqnD Tryz.prog f args Hs X Hs' dead :=
 Eqn.ev mix o_nj o_qu h
def itZ:List V:=[.d (.int .i64 0),.d (.int .i64 0),.d (.int .i64 0),.d (.int .i64 0),.d (.int .i64 0),.d (.int .i64 0),.d (.bool false),.d .nilp,.d .nilp,.d .nilp,.d .nilp]
def itG (k:Int):List V:=[.d (.int .i64 1),.d (.int .i64 2),.d (.int .i64 1),.d (.int .i64 3),.d (.int .i64 k),.d (.int .i64 0),.d (.bool false),.d .nilp,.d .nilp,.d .nilp,.d .nilp]
def repsL:Nat→List V→List V→List V
 | 0,_,r=>r
 | n+1,l,r=>l++repsL n l r
def machG (x:List V):Ob:=⟨113,.p 1 0::(itZ++(x++repsL 15 itZ []))⟩
def tapeE:Ob:=⟨138,[.d (.int .i64 0),.d (.bool false),.d .nilsl]⟩
theorem o_qw:Eqn Tryz.prog o_cj [.d .nilsl] [] (.p 0 0) [machG itZ,tapeE]:=o_qv (by kernel_rfl)
def repG (h:Int) (v:List D):List D:=[.int .i64 0,.int .i64 h,.bool false]++v++[.nilsl,.bool false,.nilsl,.nilsl,.bool false,.nilsl,.nilsl,.bool false,.nilsl,.nilsl]
def rat0:List D:=[.nilsl,.bool false,.nilsl]
def cmG (op h n:Int) (N:D):D:=.agg [.int .i64 op,.int .i64 h,.int .i64 0,.int .i64 0,.int .i64 n,.int .u64 0,N,.nilsl]
theorem o_qx:Eqn Tryz.prog o_7u [.p 0 0,.d (cmG 1 0 0 (.sl 4 [.int .i64 1,.int .i64 2,.int .i64 1,.int .i64 3]))] [machG itZ,tapeE] (.d (.agg (repG 1 rat0))) [machG (itG 0),tapeE]:=o_qv (by kernel_rfl)
theorem o_qy:Eqn Tryz.prog o_7u [.p 0 0,.d (cmG 2 1 2 .nilsl)] [machG (itG 0),tapeE] (.d (.agg (repG 0 rat0))) [machG (itG 2),tapeE]:=o_qv (by kernel_rfl)
theorem o_qz:Eqn Tryz.prog o_bm [.d (cmG 1 0 0 (.sl 4 [.int .i64 1,.int .i64 2,.int .i64 1,.int .i64 3])),.d (.agg (repG 1 rat0))] [] (.d (.str ⟨#[111,107,32,49]⟩)) []:=o_qv (by kernel_rfl)
theorem o_r0:Eqn Tryz.prog o_bm [.d (cmG 2 1 2 .nilsl),.d (.agg (repG 0 rat0))] [] (.d (.str ⟨#[111,107]⟩)) []:=o_qv (by kernel_rfl)
theorem o_r1:Eqn Tryz.prog o_7u [.p 0 0,.d (cmG 4 1 0 .nilsl)] [machG (itG 2),tapeE] (.d (.agg (repG 0 [.sl 1 [.int .u64 2],.bool false,.nilsl]))) [machG (itG 2),tapeE]:=o_qv (by kernel_rfl)
theorem o_r2:Eqn Tryz.prog o_bm [.d (cmG 4 1 0 .nilsl),.d (.agg (repG 0 [.sl 1 [.int .u64 2],.bool false,.nilsl]))] [] (.d (.str ⟨#[50]⟩)) []:=o_qv (by kernel_rfl)
end
section
open Go.RowKit Go.Conc
theorem o_r3:∀(l:List (List Nat)) (a:List Nat),accF (some a) l=some (a++linesN l)
 | [],a=>by simp [accF,linesN]
 | t::r,a=>by
  rw [accF,o_r3 r]
  simp [linesN]
theorem o_r4 {l:List (List Nat)} (h:l≠[]):accF none l=some (linesN l):=by
 cases l with
 | nil=>exact absurd rfl h
 | cons t r=>rw [accF,o_r3];simp [linesN]
theorem o_r5 (k:Nat) (l:List ByteArray):V.lowl k (chO l).c=true:=o_6y k _
theorem o_r6 (bufs:List (List Nat)) (t:List Nat) (h:bufs.length<64):Eqn Tryz.prog o_7r [.p 0 0,.d (.str (bst t))] [boxZ,chO (bufs.map bst)] (.tup []) [boxZ,chO ((bufs++[t]).map bst)]:=by
 refine ⟨by simp,by simp,by rfl,?_,?_⟩
 ·intro ob hob
  simp at hob
  rcases hob with rfl | rfl
  ·rfl
  ·rw [show bufs.map bst++[bst t]=(bufs++[t]).map bst by simp];exact o_r5 _ _
 intro m vs hb hv ho hinj htop
 obtain ⟨v,u,rfl,h1,h2⟩:=reps2 hv
 rw [repStr h2]
 unfold V.rep at h1
 obtain ⟨b,k1,rfl⟩:=h1
 have o0:=ho 0 _ rfl
 have o1:=ho 1 _ rfl
 obtain ⟨b',c,k2,k3,k4⟩:=o_qo (A:=.d .nilp) (B:=.d .nilsl) o0
 rw [k1] at k2;cases k2
 obtain ⟨c',s,r,k5,k6,k7⟩:=o_qm o1
 rw [k3] at k5;cases k5
 refine .inr ⟨o_ow o_7t _ _,(o_qj m.w b c 64 s r _ (bst t) k4 k6 (by simpa using h)).mono ?_⟩
 rintro e w' ⟨rfl,rfl⟩
 obtain ⟨e1,e2,e3⟩:=o_qn ((bufs++[t]).map bst) hb o1 k3 k6 k7 (s+1) r
 have hw:((bufs.map bst).map Value.string).toArray.push (.string (bst t))=(((bufs++[t]).map bst).map Value.string).toArray:=by simp
 rw [hw]
 refine ⟨.tuple #[],_,rfl,rfl,e1,e2.mono fun n b h1 h2=>by show n<2;have h2':n=1:=h2;omega,by unfold V.rep;exact ⟨[],rfl,rfl⟩,?_,?_,?_,?_⟩
 ·intro n ob _ hn
  match n,hn with
  | 0,hn =>
   cases hn
   exact Mem.obj_keep hb e2 (fun k b' hk hn'=>by
    subst hk
    intro hk2
    have:=hinj 0 1 b' (by simp) (by simp) hn' hk2
    omega) o0
  | 1,hn=>cases hn;exact e3
  | n+2,hn=>simp at hn
 ·intro n i b' _ _ hn hi h1 h2
  exact hinj n i b' hn hi h1 h2
 ·intro n hn;exact htop n hn
 ·intro n b' hn h1
  have:=htop n hn
  rw [show m.ρ n=some b' from h1] at this;cases this
theorem o_r7 {m:Mem} {bufs:List (List Nat)} (hb:m.base) (o0:m.obj 0 boxZ) (o1:m.obj 1 (chO (bufs.map bst))) (hinj:∀n i b,n<2→i<2→m.ρ n=some b→m.ρ i=some b→n=i) (htop:∀n,2≤n→m.ρ n=none):Fl m m bufs none:=by
 refine ⟨hb,Mem.le.refl m _,o1,o0,fun n hn=>htop n (by omega),fun _=>htop 2 (by omega),fun n i b h1 h2=>?_,fun b h=>(by rw [htop 2 (by omega)] at h;cases h),htop⟩
 rcases Nat.lt_or_ge n 2 with k | k
 ·rcases Nat.lt_or_ge i 2 with q | q
  ·exact hinj n i b k q h1 h2
  ·rw [htop i q] at h2;cases h2
 ·rw [htop n k] at h1;cases h1
theorem o_r8 (m:Mem) (b:Nat) (bufs:List (List Nat)) (h:Fl m m bufs none) (hb:m.ρ 0=some b) (hs:∀t∈bufs,∀x∈t,x<256) (hl:(linesN bufs).length≤100000000) :
  Calls Tryz.prog o_7o #[.pointer (some ⟨b,0,none⟩)] m.w fun e w'=>e = .returned (.tuple #[])∧∃m',m'.w=w'∧Fl m m' [] (accF none bufs):=by
 refine calls_of_loneTo fun cs=>?_
 have e:Frame.enter Tryz.prog o_7o #[.pointer (some ⟨b,0,none⟩)] .normal=(base o_7o).at ⟨#[.pointer (some ⟨b,0,none⟩),undef,undef,undef,undef,undef,undef,undef,undef,undef,undef,undef,undef,undef,undef,undef,undef],[]⟩ [.code (Tryz.f25.body.getD .skip)]:=by
  simp [Frame.enter,Frame.at,Tryz.func25,base,Tryz.f25]
 rw [e]
 have L:=o_qt m b cs bufs none m h hb hs (by simpa using hl)
 have hw:Tryz.f25.body.getD .skip = .block 0 (.loop flB):=rfl
 rw [hw]
 generalize flB=B at *
 obtain ⟨w,HW⟩:∃w,w=m.w:=⟨_,rfl⟩
 rw [←HW] at L ⊢
 refine LoneTo.goes (n:=10) ?_
 s_c stepG_block
 s_c stepG_loop
 s_stop
 exact L _ _ _ _ _ _ _ _ _ _ _ _ _ _ _ _
theorem o_r9 (bufs:List (List Nat)) (h0:bufs≠[]) (hs:∀t∈bufs,∀x∈t,x<256) (hl:(linesN bufs).length≤100000000):Eqn Tryz.prog o_7o [.p 0 0] [boxZ,chO (bufs.map bst)] (.tup []) [boxU (linesN bufs).length,chO [],byO (linesN bufs)]:=by
 refine ⟨by simp,by simp,by rfl,?_,?_⟩
 ·intro ob hob
  simp at hob
  rcases hob with rfl | rfl | rfl
  ·rfl
  ·exact o_r5 _ _
  ·exact o_pf _ _
 intro m vs hb hv ho hinj htop
 obtain ⟨v,rfl,h1⟩:=reps1 hv
 unfold V.rep at h1
 obtain ⟨b,k1,rfl⟩:=h1
 have F:=o_r7 hb (ho 0 _ rfl) (ho 1 _ rfl) hinj htop
 refine .inr ⟨o_ow o_7q _ _,(o_r8 m b bufs F k1 hs hl).mono ?_⟩
 rintro e w' ⟨rfl,m',rfl,hF⟩
 rw [o_r4 h0] at hF
 refine ⟨.tuple #[],m',rfl,rfl,hF.base,hF.le,by unfold V.rep;exact ⟨[],rfl,rfl⟩,?_,fun n i b' _ _ _ _ h1 h2=>hF.inj n i b' h1 h2,hF.top,?_⟩
 ·intro n ob _ hn
  match n,hn with
  | 0,hn=>cases hn;exact hF.box.1
  | 1,hn=>cases hn;exact hF.ch
  | 2,hn=>cases hn;exact hF.box.2
  | n+3,hn=>simp at hn
 ·intro n b' hn h1
  rcases Nat.lt_or_ge n 3 with k | k
  ·obtain rfl:n=2:=by simp at hn;omega
   exact .inl (hF.new b' h1)
  ·rw [hF.top n k] at h1;cases h1
theorem o_ra:Eqn Tryz.prog o_7o [.p 0 0] [boxZ,chO []] (.tup []) [boxZ,chO []]:=by
 refine ⟨by simp,by simp,by rfl,?_,?_⟩
 ·intro ob hob
  simp at hob
  rcases hob with rfl | rfl
  ·rfl
  ·exact o_r5 _ _
 intro m vs hb hv ho hinj htop
 obtain ⟨v,rfl,h1⟩:=reps1 hv
 unfold V.rep at h1
 obtain ⟨b,k1,rfl⟩:=h1
 have F:=o_r7 (bufs:=[]) hb (ho 0 _ rfl) (ho 1 _ rfl) hinj htop
 refine .inr ⟨o_ow o_7q _ _,(o_r8 m b [] F k1 (by simp) (by simp [linesN])).mono ?_⟩
 rintro e w' ⟨rfl,m',rfl,hF⟩
 refine ⟨.tuple #[],m',rfl,rfl,hF.base,hF.le,by unfold V.rep;exact ⟨[],rfl,rfl⟩,?_,fun n i b' _ _ _ _ h1 h2=>hF.inj n i b' h1 h2,?_,?_⟩
 ·intro n ob _ hn
  match n,hn with
  | 0,hn=>cases hn;exact hF.box
  | 1,hn=>cases hn;exact hF.ch
  | n+2,hn=>simp at hn
 ·intro n hn
  simp at hn
  rcases Nat.lt_or_ge n 3 with k | k
  ·obtain rfl:n=2:=by omega
   exact hF.top2 rfl
  ·exact hF.top n k
 ·intro n b' hn h1
  simp at hn
  rcases Nat.lt_or_ge n 3 with k | k
  ·obtain rfl:n=2:=by omega
   rw [hF.top2 rfl] at h1;cases h1
  ·rw [hF.top n k] at h1;cases h1
end
section
open Go.RowKit
set_option maxHeartbeats 4000000 in
theorem o_rb (n:Int) (hn:inR n):Eqn Tryz.prog o_8r [.d (.int .i64 n),.d (.int .i64 10)] [] (.d (.str (bst (itoaN n)))) []:=by
 unfold inR at hn
 by_cases h0:n<0
 ·refine Eqn.pure o_8t (o_6a _) ?_
  refine cc (c':=?z244) ?_ ?_
  case refine_1=>cbv<;>exact rfl
  obtain ⟨k,rfl⟩:∃k:Nat,n = -(k:Int):=⟨n.natAbs,by omega⟩
  have hk:0<k:=by omega
  have hk2:k<18446744073709551616:=by omega
  have e1:IntKind.u64.wrap (-(k:Int))=18446744073709551616-k:=by rw [IntKind.wrap_u64];omega
  have e2:IntKind.u64.wrap (-(18446744073709551616-(k:Int)))=k:=by rw [IntKind.wrap_u64];omega
  have htx:bst (itoaN (-(k:Int)))=bst (45::padN (ndig k) k):=by
   unfold itoaN;rw [if_pos h0,show (-(k:Int)).natAbs=k by omega];rfl
  rw [htx]
  have hnd:=o_h5 k hk hk2
  have hlt:=o_gd k
  have hle:=o_ge k 20 (Nat.lt_trans hk2 (by decide)) (by decide)
  generalize ndig k=nd at *
  have hf:=o_hg k nd hk2 hle hlt [0] (List.replicate (23-nd) 0) (by simp)
  have hz:yV ([0]++(List.replicate nd 0++List.replicate (23-nd) 0))=List.replicate 24 (V.d (.int .u8 0)):=by
   rw [List.replicate_append_replicate,show nd+(23-nd)=23 by omega];rfl
  rw [hz] at hf
  have hs:(yV (0::(padN nd k++List.replicate (23-nd) 0))).set 0 (.d (.int .u8 45))=yV (45::(padN nd k++List.replicate (23-nd) 0)):=by
   show (yV (0::(padN nd k++List.replicate (23-nd) 0))).set 0 (.d (.int .u8 ((45:Nat):Int)))=_
   rw [o_h9];rfl
  have htk:(yV (45::(padN nd k++List.replicate (23-nd) 0))).take (1+nd)=yV (45::padN nd k):=by
   unfold yV
   rw [Nat.add_comm,List.map_cons,List.take_succ_cons,List.map_append,List.take_append_of_le_length (by rw [List.length_map,o_g4];exact Nat.le_refl _),List.take_of_length_le (by rw [List.length_map,o_g4];exact Nat.le_refl _)]
   rfl
  have hln:(45::padN nd k).length=1+nd:=by rw [List.length_cons,o_g4,Nat.add_comm]
  have hst:strOf (45::(padN nd k).map fun n:Nat=>(n:Int))=bst (45::padN nd k):=o_hi (45::padN nd k)
  have hni:(nd:Int)≤20:=by omega
  have w1:IntKind.i64.wrap (1+(nd:Int))=1+(nd:Int):=w64 (by omega) (by omega)
  have h1:¬(0:Int)≤-(k:Int):=by omega
  have h2:-(k:Int)<0:=by omega
  have h3:0<k:=hk
  have h4:¬k=0:=by omega
  have q1:(1+(nd:Int)).toNat-1=nd:=by omega
  have q2:(1+(nd:Int)).toNat=1+nd:=by omega
  refine A10 (fs h1 (fs h2 (fs h3 (fs h4 (fs e1 e2))))) ?_;try with_reducible exact tt
  refine CallS.pu (hnd) (R1 (fs h1 (fs h2 (fs h3 (fs h4 (fs e1 (fs e2 (fs hni (fs w1 q1)))))))) ?_);try with_reducible exact tt
  simp only [List.length_cons,List.length_nil] at hf
  refine CallS.g [0] (hf) (R1 (fs h1 (fs h2 (fs h3 (fs h4 (fs e1 (fs e2 (fs hni (fs w1 (fs q1 (fs q2 (fs hs (fs htk (fs hln hst))))))))))))) ?_);try with_reducible exact tt
  refine A10 (fs h2 (fs h3 (fs h4 (fs hni (fs w1 (fs q1 (fs q2 (fs hs (fs htk (fs hln hst)))))))))) ?_;try with_reducible exact tt
 ·obtain ⟨k,rfl⟩:∃k:Nat,n=(k:Int):=⟨n.toNat,by omega⟩
  by_cases h100:k<100
  ·refine Eqn.pure o_8t (o_6a _) ?_
   refine cc (c':=?z245) ?_ ?_
   case refine_1=>cbv<;>exact rfl
   have hsm:=o_g0 k h100
   rw [o_hk k h100] at hsm
   have ht:bst (itoaN (k:Int))=txt k:=by unfold itoaN;rw [if_neg h0];rfl
   rw [ht]
   have h1:(k:Int)<100:=by omega
   refine A11 (fs h1 h100) hsm ?_;try with_reducible exact tt
  ·refine Eqn.pure o_8t (o_6a _) ?_
   refine cc (c':=?z246) ?_ ?_
   case refine_1=>cbv<;>exact rfl
   have hk2:k<18446744073709551616:=by omega
   have e1:IntKind.u64.wrap (k:Int)=k:=by rw [IntKind.wrap_u64];omega
   have htx:bst (itoaN (k:Int))=bst (padN (ndig k) k):=by unfold itoaN;rw [if_neg h0];rfl
   rw [htx]
   have hnd:=o_h5 k (by omega) hk2
   have hlt:=o_gd k
   have hle:=o_ge k 20 (Nat.lt_trans hk2 (by decide)) (by decide)
   generalize ndig k=nd at *
   have hf:=o_hg k nd hk2 hle hlt [0] (List.replicate (23-nd) 0) (by simp)
   have hz:yV ([0]++(List.replicate nd 0++List.replicate (23-nd) 0))=List.replicate 24 (V.d (.int .u8 0)):=by
    rw [List.replicate_append_replicate,show nd+(23-nd)=23 by omega];rfl
   rw [hz] at hf
   have htk:((yV (0::(padN nd k++List.replicate (23-nd) 0))).tail).take nd=yV (padN nd k):=by
    unfold yV
    rw [List.map_cons,List.tail_cons,List.map_append,List.take_append_of_le_length (by rw [List.length_map,o_g4];exact Nat.le_refl _),List.take_of_length_le (by rw [List.length_map,o_g4];exact Nat.le_refl _)]
   have hln:(padN nd k).length=nd:=o_g4 _ _
   have hst:=o_hi (padN nd k)
   have hni:(nd:Int)≤20:=by omega
   have w1:IntKind.i64.wrap (1+(nd:Int))=1+(nd:Int):=w64 (by omega) (by omega)
   have h1:¬(k:Int)<100:=by omega
   have h2:¬(k:Int)<0:=by omega
   have q1:(1+(nd:Int)).toNat-1=nd:=by omega
   have q2:(1+(nd:Int)).toNat=1+nd:=by omega
   refine A10 (fs h1 (fs h2 (fs h100 e1))) ?_;try with_reducible exact tt
   refine CallS.pu (hnd) (R1 (fs h1 (fs h2 (fs e1 (fs hni (fs w1 q1))))) ?_);try with_reducible exact tt
   simp only [List.length_cons,List.length_nil] at hf
   refine CallS.g [0] (hf) (R1 (fs h1 (fs h2 (fs e1 (fs hni (fs w1 (fs q1 (fs q2 (fs htk (fs hln hst))))))))) ?_);try with_reducible exact tt
   refine A10 (fs h1 (fs h2 (fs hni (fs w1 (fs q1 (fs q2 (fs htk (fs hln hst)))))))) ?_;try with_reducible exact tt
theorem o_rc (n:Int) (hn:inR n):Eqn Tryz.prog o_aa [.d (.int .i64 n)] [] (.d (.str (bst (itoaN n)))) []:=by
 have h1:Eqn Tryz.prog o_8x [.d (.int .i64 n)] [] (.d (.str (bst (itoaN n)))) []:=by
  refine Eqn.pure o_8z (o_6a _) ?_
  refine cc (c':=?z247) ?_ ?_
  case refine_1=>cbv<;>exact rfl
  have h:=o_rb n hn
  refine A01 h ?_;try with_reducible exact tt
 refine Eqn.pure o_ac (o_6a _) ?_
 refine cc (c':=?z248) ?_ ?_
 case refine_1=>cbv<;>exact rfl
 refine A01 h1 ?_;try with_reducible exact tt
theorem o_rd (n:Nat) (hn:n<18446744073709551616):Eqn Tryz.prog o_a7 [.d (.int .u64 n),.d (.int .i64 10)] [] (.d (.str (bst (decN n)))) []:=by
 refine Eqn.pure o_a9 (o_6a _) ?_
 refine cc (c':=?z249) ?_ ?_
 case refine_1=>cbv<;>exact rfl
 have h:=o_hl n hn
 rw [txt] at h
 refine A01 h ?_;try with_reducible exact tt
end
section
open Go.RowKit
theorem o_re (k:Int) (hk:inR k):Eqn Tryz.prog o_cg [.d (.int .i64 k)] [] (.d (.str (bst (wordN k)))) []:=by
 refine Eqn.pure o_ci (o_6a _) ?_
 refine cc (c':=?z250) ?_ ?_
 case refine_1=>cbv<;>exact rfl
 unfold inR at hk
 by_cases h0:k<0
 ·rw [show bst (wordN k)=⟨#[]⟩ by unfold wordN;rw [if_pos h0];rfl]
  refine A10 h0 ?_;try with_reducible exact tt
 by_cases h1:10≤k
 ·have e:wordN k=[]:=by
   unfold wordN
   rw [if_neg h0,List.getD_eq_getElem?_getD,List.getElem?_eq_none (by simp [wordT];omega)];rfl
  rw [e,show bst []=⟨#[]⟩ from rfl]
  refine A10 (fs h0 h1) ?_;try with_reducible exact tt
 rcases (by omega:k=0∨k=1∨k=2∨k=3∨k=4∨k=5∨k=6∨k=7∨k=8∨k=9) with rfl | rfl | rfl | rfl | rfl | rfl | rfl | rfl | rfl | rfl
 ·rw [show bst (wordN 0)=⟨#[]⟩ from rfl]
  refine A00 ?_;try with_reducible exact tt
 ·rw [show bst (wordN 1)=⟨#[110,101,119]⟩ from rfl]
  refine A00 ?_;try with_reducible exact tt
 ·rw [show bst (wordN 2)=⟨#[97,100,100]⟩ from rfl]
  refine A00 ?_;try with_reducible exact tt
 ·rw [show bst (wordN 3)=⟨#[117,112,100,97,116,101]⟩ from rfl]
  refine A00 ?_;try with_reducible exact tt
 ·rw [show bst (wordN 4)=⟨#[113,117,101,114,121]⟩ from rfl]
  refine A00 ?_;try with_reducible exact tt
 ·rw [show bst (wordN 5)=⟨#[109,101,114,103,101]⟩ from rfl]
  refine A00 ?_;try with_reducible exact tt
 ·rw [show bst (wordN 6)=⟨#[97,110,97,108,121,115,101]⟩ from rfl]
  refine A00 ?_;try with_reducible exact tt
 ·rw [show bst (wordN 7)=⟨#[101,110,99,111,100,101]⟩ from rfl]
  refine A00 ?_;try with_reducible exact tt
 ·rw [show bst (wordN 8)=⟨#[100,101,99,111,100,101]⟩ from rfl]
  refine A00 ?_;try with_reducible exact tt
 ·rw [show bst (wordN 9)=⟨#[100,114,111,112]⟩ from rfl]
  refine A00 ?_;try with_reducible exact tt
theorem o_rf (k:Int) (hk:inR k):Eqn Tryz.prog o_by [.d (.int .i64 k)] [] (.d (.str (bst ([101,114,114,111,114,32]++itoaN k)))) []:=by
 refine Eqn.pure o_c0 (o_6a _) ?_
 refine cc (c':=?z251) ?_ ?_
 case refine_1=>cbv<;>exact rfl
 have h:=o_rc k hk
 have h1:(⟨#[101,114,114,111,114,32]⟩:ByteArray)++bst (itoaN k)=bst ([101,114,114,111,114,32]++itoaN k):=o_gi [101,114,114,111,114,32] (itoaN k)
 have h2:(itoaN k).length≤100:=o_oe k hk
 rw [←h1]
 have h3:6+(itoaN k).length≤9223372036854775807:=by omega
 have h4:(⟨#[101,114,114,111,114,32]⟩:ByteArray).size=6:=rfl
 refine A11 (fs h3 h4) h ?_;try with_reducible exact tt
theorem o_rg (t:Nat) (ht:t<1000000) (c:List D) (off:Nat) (hoff:off<c.length) (s:List Nat) (hs:∀x∈s,x<256) (hl:s.length≤100000000) :
  ∃v:Int,Eqn Tryz.prog o_8g [.agg [.p 0 off,.d .nilp],.d (.str (bst s))] [⟨t,c.map .d⟩] (.d (.bool (readI s).isSome)) [⟨t,(c.set off (.int .i64 v)).map .d⟩]∧∀w,readI s=some w→v=w:=by
 obtain ⟨v,E,hA,hE⟩:=o_pa (bst s) (by rw [o_gj];omega)
 rw [o_ob] at hE
 refine ⟨v,?_,?_⟩
 rotate_left
 ·intro w hw
  rcases hE with ⟨_,h⟩ | ⟨_,h⟩
  ·rw [o_op (o_ot h) h] at hw
   split at hw
   ·cases hw;rfl
   ·cases hw
  ·rw [o_oq h] at hw;cases hw
 have hset:(c.map V.d).set off (.d (.int .i64 v))=(c.set off (.int .i64 v)).map .d:=by rw [List.map_set]
 refine Eqn.gen [0] o_8i (by simp) (by simp) (by rfl) (by decide) (by simp) (by simp only [List.mem_singleton];rintro ob rfl;exact o_6y _ _) ?_
 refine cc (c':=?z252) ?_ ?_
 case refine_1=>cbv<;>exact rfl
 rcases hE with ⟨rfl,h⟩ | ⟨⟨q,d,rfl⟩,h⟩
 ·have hi:=o_rc v (o_ot h)
  have hr:=o_op (o_ot h) h
  have hq:=o_q4 (a:=itoaN v) (b:=s) (fun x hx=>by have:=o_nt v x hx;omega) hs
  have hb:(readI s).isSome=decide (itoaN v=s):=by rw [hr];split<;>simp_all
  rw [hb]
  refine A12 (fs hoff (fs ht hq)) hA hi ?_;try with_reducible exact tt
  rw [hset,o_6x];exact Subs.refl _
 ·have hb:(readI s).isSome=false:=by rw [o_oq h];rfl
  rw [hb]
  refine A11 (fs hoff ht) hA ?_;try with_reducible exact tt
  rw [hset,o_6x];exact Subs.refl _
theorem o_rh (t:Nat) (ht:t<1000000) (c:List D) (off:Nat) (hoff:off<c.length) (s:List Nat) (hs:∀x∈s,x<256) (hl:s.length≤100000000) :
  ∃v:Nat,Eqn Tryz.prog o_8g [.agg [.d .nilp,.p 0 off],.d (.str (bst s))] [⟨t,c.map .d⟩] (.d (.bool (readK s).isSome)) [⟨t,(c.set off (.int .u64 v)).map .d⟩]∧∀w,readK s=some w→v=w:=by
 obtain ⟨v,E,hA,hE⟩:=o_pb (bst s) (by rw [o_gj];omega)
 rw [o_ob] at hE
 refine ⟨v,?_,?_⟩
 rotate_left
 ·intro w hw
  rcases hE with ⟨_,h⟩ | ⟨_,h⟩
  ·rw [o_or (o_ov h) h] at hw
   split at hw
   ·cases hw;rfl
   ·cases hw
  ·rw [o_os h] at hw;cases hw
 have hset:(c.map V.d).set off (.d (.int .u64 v))=(c.set off (.int .u64 v)).map .d:=by rw [List.map_set]
 refine Eqn.gen [0] o_8i (by simp) (by simp) (by rfl) (by decide) (by simp) (by simp only [List.mem_singleton];rintro ob rfl;exact o_6y _ _) ?_
 refine cc (c':=?z253) ?_ ?_
 case refine_1=>cbv<;>exact rfl
 rcases hE with ⟨rfl,h⟩ | ⟨⟨q,d,rfl⟩,h⟩
 ·have hi:=o_rd v (o_ov h)
  have hr:=o_or (o_ov h) h
  have hq:=o_q4 (a:=decN v) (b:=s) (fun x hx=>by have:=o_no v x hx;omega) hs
  have hb:(readK s).isSome=decide (decN v=s):=by rw [hr];split<;>simp_all
  rw [hb]
  refine A12 (fs hoff (fs ht hq)) hA hi ?_;try with_reducible exact tt
  rw [hset,o_6x];exact Subs.refl _
 ·have hb:(readK s).isSome=false:=by rw [o_os h];rfl
  rw [hb]
  refine A11 (fs hoff ht) hA ?_;try with_reducible exact tt
  rw [hset,o_6x];exact Subs.refl _
theorem o_ri (t:Nat) (ht:t<1000000) (c:List D) (off:Nat) (v:Int) (hv:inR v) (hoff:c[off]?=some (.int .i64 v)) :
  Eqn Tryz.prog o_8j [.agg [.p 0 off,.d .nilp]] [⟨t,c.map .d⟩] (.d (.str (bst (itoaN v)))) [⟨t,c.map .d⟩]:=by
 refine Eqn.gen [0] o_8l (by simp) (by simp) (by rfl) (by decide) (by simp) (by simp) ?_
 refine cc (c':=?z254) ?_ ?_
 case refine_1=>cbv<;>exact rfl
 have hi:=o_rc v hv
 have hl:off<c.length:=by
  rcases Nat.lt_or_ge off c.length with h | h
  ·exact h
  ·rw [List.getElem?_eq_none h] at hoff;cases hoff
 rw [List.getElem?_eq_getElem hl] at hoff
 have hg:=Option.some.inj hoff
 refine A11 (fs ht (fs hg hl)) hi ?_;try with_reducible exact tt
theorem o_rj (t:Nat) (ht:t<1000000) (c:List D) (off:Nat) (v:Nat) (hv:v<18446744073709551616) (hoff:c[off]?=some (.int .u64 v)) :
  Eqn Tryz.prog o_8j [.agg [.d .nilp,.p 0 off]] [⟨t,c.map .d⟩] (.d (.str (bst (decN v)))) [⟨t,c.map .d⟩]:=by
 refine Eqn.gen [0] o_8l (by simp) (by simp) (by rfl) (by decide) (by simp) (by simp) ?_
 refine cc (c':=?z255) ?_ ?_
 case refine_1=>cbv<;>exact rfl
 have hi:=o_rd v hv
 have hl:off<c.length:=by
  rcases Nat.lt_or_ge off c.length with h | h
  ·exact h
  ·rw [List.getElem?_eq_none h] at hoff;cases hoff
 rw [List.getElem?_eq_getElem hl] at hoff
 have hg:=Option.some.inj hoff
 refine A11 (fs ht (fs hg hl)) hi ?_;try with_reducible exact tt
end
section
open Go.RowKit
def cmdD (c:CmdM) (N B:D):List D:=[.int .i64 c.op,.int .i64 c.h,.int .i64 c.o,.int .i64 c.i,.int .i64 c.n,.int .u64 c.key,N,B]
def offF:FldM→Nat
 | .h=>1
 | .o=>2
 | .i=>3
 | .n=>4
 | .key=>5
def fldV:FldM→List V
 | .key=>[.d .nilp,.p 0 5]
 | f=>[.p 0 (offF f),.d .nilp]
def fldsV (l:List FldM):List V:=l.flatMap fldV
set_option maxHeartbeats 4000000 in
theorem o_rk (c:CmdM) (N B:D) (hk:inR c.op):fldsN c.op.toNat≠[]→0≤c.op →
  Eqn Tryz.prog o_c1 [.p 0 0] [⟨28,(cmdD c N B).map .d⟩] (.own 1 2 (fldsN c.op.toNat).length) [⟨28,(cmdD c N B).map .d⟩,⟨87,fldsV (fldsN c.op.toNat)⟩]:=by
 obtain ⟨op,h,o,i,n,key,nums,bytes⟩:=c
 simp only at *
 intro h1 h2
 obtain ⟨k,rfl⟩:∃k:Nat,op=(k:Int):=⟨op.toNat,by omega⟩
 simp only [Int.toNat_natCast] at *
 rcases (by
  rcases Nat.lt_or_ge k 10 with h | h
  ·exact .inl h
  ·exact .inr h:k<10∨10≤k) with h10 | h10
 rotate_left
 ·exfalso;apply h1
  unfold fldsN
  split<;>first | omega | rfl
 have hks:k=2∨k=3∨k=4∨k=5∨k=6∨k=7∨k=9:=by
  rcases (by omega:k=0∨k=1∨k=2∨k=3∨k=4∨k=5∨k=6∨k=7∨k=8∨k=9) with rfl | rfl | rfl | rfl | rfl | rfl | rfl | rfl | rfl | rfl<;>simp_all [fldsN]
 rcases hks with rfl | rfl | rfl | rfl | rfl | rfl | rfl
 all_goals
  simp only [fldsN,fldsV,fldV,offF,cmdD,List.flatMap_cons,List.flatMap_nil,List.map_cons,List.map_nil]
  refine Eqn.gen [0,2] o_c3 (by simp) (by simp) (by rfl) (by decide) (by simp) (by simp [V.lowl,V.low]) ?_
  refine cc (c':=?z256) ?_ ?_
  case refine_1=>cbv<;>exact rfl
  refine A00 ?_;try with_reducible exact tt
theorem o_rl (c:CmdM) (N B:D) (hk:inR c.op) (h1:c.op≠2∧c.op≠3∧c.op≠4∧c.op≠5∧c.op≠6∧c.op≠7∧c.op≠9) :
  Eqn Tryz.prog o_c1 [.p 0 0] [⟨28,(cmdD c N B).map .d⟩] (.d .nilsl) [⟨28,(cmdD c N B).map .d⟩]:=by
 obtain ⟨op,h,o,i,n,key,nums,bytes⟩:=c
 simp only at *
 obtain ⟨e2,e3,e4,e5,e6,e7,e9⟩:=h1
 simp only [cmdD,List.map_cons,List.map_nil]
 refine Eqn.gen [0] o_c3 (by simp) (by simp) (by rfl) (by decide) (by simp) (by simp [V.lowl,V.low]) ?_
 refine cc (c':=?z257) ?_ ?_
 case refine_1=>cbv<;>exact rfl
 refine A10 (fs e2 (fs e3 (fs e4 (fs e5 (fs e6 (fs e7 e9)))))) ?_;try with_reducible exact tt
end
section
def digN:List Nat:=[48,49,50,51,52,53,54,55,56,57,97,98,99,100,101,102]
theorem o_rm:((List.range 256).all fun c=>decide (Lib.indexByte (u8l digN) (UInt8.ofNat c)=match undig c with
 | some n=>(n:Int)
 | none=>-1)&&((undig c).isSome==(u8l digN).contains (UInt8.ofNat c)))=true:=by kernel_rfl
theorem o_rn (c:Nat) (h:c<256) (n:Nat) (hn:undig c=some n):Lib.indexByte (u8l digN) (UInt8.ofNat c)=(n:Int):=by
 have:=List.all_eq_true.1 o_rm c (by simpa using h)
 simp only [Bool.and_eq_true,decide_eq_true_eq] at this
 rw [this.1,hn]
theorem o_ro (c:Nat) (h:c<256):(u8l digN).contains (UInt8.ofNat c)=(undig c).isSome:=by
 have:=List.all_eq_true.1 o_rm c (by simpa using h)
 simp only [Bool.and_eq_true,beq_iff_eq] at this
 exact this.2.symm
theorem o_rp {p:UInt8→Bool}:∀l:List UInt8,l.dropWhile p=[]↔∀x∈l,p x=true
 | []=>by simp
 | a::l=>by
  rw [List.dropWhile_cons]
  by_cases h:p a=true
  ·rw [if_pos h,o_rp l];simp [h]
  ·rw [if_neg h];simp [h]
theorem o_rq {p:UInt8→Bool}:∀(l:List UInt8) (x:UInt8) (r:List UInt8),l.dropWhile p=x::r→¬p x=true
 | [],x,r,h=>by simp at h
 | a::l,x,r,h=>by
  rw [List.dropWhile_cons] at h
  by_cases h1:p a=true
  ·rw [if_pos h1] at h;exact o_rq l x r h
  ·rw [if_neg h1] at h;cases h;exact h1
theorem o_rr {p:UInt8→Bool}:∀(l:List UInt8) (x:UInt8),x∈l.dropWhile p→x∈l
 | [],x,h=>by simp at h
 | a::l,x,h=>by
  rw [List.dropWhile_cons] at h
  by_cases h1:p a=true
  ·rw [if_pos h1] at h;exact List.mem_cons_of_mem _ (o_rr l x h)
  ·rw [if_neg h1] at h;exact h
theorem o_rs (l cs:List UInt8):Lib.trimS l cs=[]↔∀x∈l,cs.contains x=true:=by
 unfold Lib.trimS Lib.trimLeftS Lib.trimRightS
 rw [o_rp]
 constructor
 ·intro h x hx
  cases hr:l.reverse.dropWhile (cs.contains ·) with
  | nil=>exact (o_rp _).1 hr x (by simpa using hx)
  | cons y r =>
   exfalso
   exact o_rq _ _ _ hr (h y (by rw [hr];simp))
 ·intro h x hx
  rw [List.mem_reverse] at hx
  exact h x (by simpa using o_rr _ _ hx)
theorem o_rt (s:List Nat) (hs:∀c∈s,c<256):Lib.trimS (u8l s) (u8l digN)=[]↔∀c∈s,(undig c).isSome=true:=by
 rw [o_rs]
 constructor
 ·intro h c hc
  rw [←o_ro c (hs c hc)]
  exact h _ (List.mem_map.2 ⟨c,hc,rfl⟩)
 ·intro h x hx
  obtain ⟨c,hc,rfl⟩:=List.mem_map.1 hx
  rw [o_ro c (hs c hc)];exact h c hc
theorem o_ru:∀(s:List Nat) (b:List Nat),unhexN s=some b→s.length=2*b.length
 | [],b,h=>by cases h;rfl
 | [_],b,h=>by cases h
 | a::c::r,b,h=>by
  rw [unhexN] at h
  split at h
  ·rename_i x y l h1 h2 h3
   cases h
   have:=o_ru r l h3
   simp;omega
  ·cases h
theorem o_rv:∀(s:List Nat),(∃b,unhexN s=some b)↔s.length%2=0∧∀c∈s,(undig c).isSome=true
 | []=>by simp [unhexN]
 | [a]=>by simp [unhexN]
 | a::c::r=>by
  have ih:=o_rv r
  rw [unhexN]
  constructor
  ·rintro ⟨b,h⟩
   split at h
   ·rename_i x y l h1 h2 h3
    obtain ⟨i1,i2⟩:=ih.1 ⟨l,h3⟩
    refine ⟨by simp;omega,?_⟩
    intro z hz
    simp at hz
    rcases hz with rfl | rfl | hz
    ·rw [h1];rfl
    ·rw [h2];rfl
    ·exact i2 z hz
   ·cases h
  ·rintro ⟨h1,h2⟩
   obtain ⟨b,hb⟩:=ih.2 ⟨by simp at h1;omega,fun z hz=>h2 z (by simp [hz])⟩
   obtain ⟨x,hx⟩:=Option.isSome_iff_exists.1 (h2 a (by simp))
   obtain ⟨y,hy⟩:=Option.isSome_iff_exists.1 (h2 c (by simp))
   rw [hx,hy,hb]
   exact ⟨_,rfl⟩
theorem o_rw:∀(i:Nat) (s b:List Nat),unhexN s=some b→(h:i<b.length)→∃x y,undig (s.getD (2*i) 0)=some x∧undig (s.getD (2*i+1) 0)=some y∧b[i]=x*16+y∧x<16∧y<16
 | i,[],b,hb,h=>by cases hb;simp at h
 | i,[_],b,hb,h=>by cases hb
 | i,a::c::r,b,hb,h=>by
  rw [unhexN] at hb
  split at hb
  ·rename_i x y l h1 h2 h3
   cases hb
   cases i with
   | zero=>exact ⟨x,y,by simpa using h1,by simpa using h2,rfl,(o_o1 h1).1,(o_o1 h2).1⟩
   | succ i =>
    obtain ⟨x',y',k1,k2,k3,k4⟩:=o_rw i r l h3 (by simpa using h)
    refine ⟨x',y',?_,?_,by simpa using k3,k4⟩
    ·rw [show 2*(i+1)=2*i+1+1 by omega];simpa using k1
    ·rw [show 2*(i+1)+1=2*i+1+1+1 by omega];simpa using k2
  ·cases hb
end
section
open Go.RowKit
theorem AW.loopE {P:Program} {L:Nat} {Q:Exit→List V→List (Option Ob)→Prop} {T:List V} {H:List (Option Ob)} {x:C} {α:Type} (T1:α→List V) (H1:α→List (Option Ob)) (R:α→Prop) (μ:α→Nat) (a0:α) (hL:∀a,R a→L≤(H1 a).length) (hR:R a0)
  (h0:wk (H1 a0).length T (T1 a0)) (h0':wkH (H1 a0).length H (H1 a0))
  (h:∀a,R a→AW P L x (thenQ (fun T' H'=>∃a',R a'∧μ a'<μ a∧wk (H1 a').length T' (T1 a')∧wkH (H1 a').length H' (H1 a')) Q) (T1 a) (H1 a)):AW P L (.loop x) Q T H:=by
 refine AW.weak (T1:=T1 a0) (H1:=H1 a0) (Weak.of h0 h0') (hL _ hR) ?_
 intro code hc m0 m a sat hle htop hL'
 cases code<;>simp [resolveC] at hc
 rename_i cx
 refine o_64 (fun k a w=>∃z:α,∃m,m.w=w∧k=μ z∧R z∧Sat m a (T1 z) (H1 z)∧m0.le m (· < L)∧L≤(H1 z).length) ?_ (μ a0) a m.w ⟨a0,m,rfl,rfl,hR,sat,hle,hL'⟩
 rintro k a w ⟨z,m,rfl,rfl,hz,sat,hle,hL1⟩
 refine wp_mono (h z hz cx hc m0 m a sat hle htop hL1) ?_
 rintro e a' w' ⟨T',H',m',rfl,hq,sat',hle',hL'⟩
 cases e with
 | normal =>
  obtain ⟨z',hz',hμ,hw1,hw2⟩:=hq
  obtain ⟨m2,hm2,s2,l2,n2⟩:=Sat.weaken (Weak.of hw1 hw2) sat' hle' htop (hL _ hz')
  exact ⟨μ z',hμ,z',m2,hm2,rfl,hz',s2,l2,n2⟩
 | _=>exact ⟨T',H',m',rfl,hq,sat',hle',hL'⟩
end
section
open Go.RowKit
theorem o_rx {s:List Nat} (h:∀k,0<k→k<10→wordT.getD k []≠s):opN s=0:=by
 rcases Nat.eq_zero_or_pos (opN s) with e | e
 ·exact e
 ·obtain ⟨h1,h2⟩:=o_nz s (by omega)
  exact absurd h1 (h _ e h2)
theorem o_ry:∀k,k<10→∀x∈wordT.getD k [],x<256:=by decide
theorem o_rz (s:List Nat) (hs:∀x∈s,x<256):Eqn Tryz.prog o_c7 [.d (.str (bst s))] [] (.d (.int .i64 (opN s:Nat))) []:=by
 refine Eqn.pure o_c9 (o_6a _) ?_
 refine cc (c':=?z258) ?_ ?_
 case refine_1=>cbv<;>exact rfl
 refine A00 ?_;try with_reducible exact tt
 refine AW.loopE (α:=Nat) (fun k=>[.d (.str (bst s)),.junk,.junk,.d (.int .i64 (k+1:Nat))]++List.replicate 9 .junk) (fun _=>[]) (fun k=>k≤9∧∀j,0<j→j≤k→wordT.getD j []≠s) (fun k=>9-k) 0 (fun _ _=>Nat.zero_le _) ⟨by omega,fun j h1 h2=>by omega⟩ ?_ ?_ ?_
 ·simp
 ·simp
 rintro k ⟨hk,hj⟩
 by_cases hk9:k<9
 ·have hw:=o_re ((k+1:Nat):Int) (by unfold inR;omega)
  have e1:wordN ((k+1:Nat):Int)=wordT.getD (k+1) []:=by unfold wordN;rw [if_neg (by omega)];rfl
  rw [e1] at hw
  have hq:=o_q4 (o_ry (k+1) (by omega)) hs
  have h1:((k+1:Nat):Int)≤9:=by omega
  have w1:IntKind.i64.wrap (((k+1:Nat):Int)+1)=((k+1+1:Nat):Int):=by rw [w64 (by omega) (by omega)];omega
  generalize hK:k+1=K at *
  by_cases he:wordT.getD K []=s
  ·have ho:opN s=K:=by rw [←he];exact o_ny K (by omega)
   rw [ho]
   rw [decide_eq_true he] at hq
   generalize wordT.getD K []=w at *
   refine A11 (fs h1 (fs hq w1)) hw ?_;try with_reducible exact tt
  ·rw [decide_eq_false he] at hq
   have hnj:∀j,0<j→j≤K→wordT.getD j []≠s:=fun j h2 h3=>by
    by_cases e:j=K
    ·subst e;exact he
    ·exact hj j h2 (by omega)
   generalize wordT.getD K []=w at *
   refine A11 (fs h1 (fs hq w1)) hw ?_;try with_reducible exact tt
   exact ⟨K,⟨by omega,hnj⟩,by omega,by simp⟩
 ·have ho:opN s=0:=o_rx fun j h1 h2=>hj j h1 (by omega)
  rw [ho]
  have h1:¬((k+1:Nat):Int)≤9:=by omega
  generalize k+1=K at *
  refine A10 h1 ?_;try with_reducible exact tt
end
section
open Go.RowKit
def digS:ByteArray:=⟨#[48,49,50,51,52,53,54,55,56,57,97,98,99,100,101,102]⟩
theorem o_s0:∀n,n<16→(digS.data[n]?.getD 0).toNat=dig n:=by decide
theorem o_s1:digS.size=16:=rfl
theorem o_s2 (b:List Nat) (i:Nat) (hi:i<b.length):(b.map fun n:Nat=>D.int .u8 n)[i]?=some (.int .u8 (b[i]:Nat)):=by simp [hi]
theorem o_s3 (b:List Nat) (x:Nat):hexN (b++[x])=hexN b++[dig (x/16)]++[dig (x%16)]:=by simp [hexN]
theorem o_s4 (b:List Nat):(hexN b).length=2*b.length:=by
 induction b with
 | nil=>rfl
 | cons x r ih=>simp only [hexN,List.flatMap_cons,List.length_append] at ih ⊢;rw [ih];simp;omega
theorem o_s5 (n:Nat) (h:n<16):dig n<256:=by
 have:∀n,n<16→dig n<256:=by decide
 exact this n h
theorem o_s6 (b:List Nat) (hb:∀x∈b,x<256):∀c∈hexN b,c<256:=by
 intro c h
 obtain ⟨x,hx,h⟩:=List.mem_flatMap.1 h
 have:=hb x hx
 simp at h
 rcases h with rfl | rfl
 ·exact o_s5 _ (by omega)
 ·exact o_s5 _ (by omega)
theorem o_s7:((List.range 256).all fun x=>decide (bits BinOp.and IntKind.u8 (x:Int) 15=((x%16:Nat):Int)))=true:=by kernel_rfl
theorem and15 (x:Nat) (h:x<256):bits BinOp.and IntKind.u8 (x:Int) 15=((x%16:Nat):Int):=by
 have:=List.all_eq_true.1 o_s7 x (by simpa using h)
 simpa using this
set_option maxHeartbeats 4000000 in
theorem o_s8 (b:List Nat) (hb:∀x∈b,x<256) (h0:b≠[]) (hn:b.length≤10000000):Eqn Tryz.prog o_c4 [.d (.sl b.length (b.map fun n:Nat=>.int .u8 n))] [] (.d (.str (bst (hexN b)))) []:=by
 refine Eqn.pure o_c6 (o_6a _) ?_
 have hD:(⟨#[48,49,50,51,52,53,54,55,56,57,97,98,99,100,101,102]⟩:ByteArray)=digS:=rfl
 refine cc (c':=?z259) ?_ ?_
 case refine_1=>cbv<;>exact rfl
 try simp only [hD]
 have hds:=o_s1
 refine A00 ?_;try with_reducible exact tt
 have hbl:0<b.length:=List.length_pos_iff.2 h0
 refine AW.loopG (α:=Nat) (fun i=>setS (List.replicate 22 .junk) [(3,.p 0 0),(6,.d (.sl b.length (b.map fun n:Nat=>.int .u8 n))),(7,.d (.int .i64 b.length)),(8,.d (.int .i64 (i:Nat)))]) (fun i=>if i=0 then [some ⟨65,[.d .nilp,.d .nilsl]⟩] else [some ⟨65,[.p 0 0,.own 1 1 (hexN (b.take i)).length]⟩,some (byO (hexN (b.take i)))]) (fun i=>i≤b.length) (fun i=>b.length-i) 0 ?_ (Nat.zero_le _) ?_ ?_ ?_
 ·intro i _;exact Nat.zero_le _
 ·simp
 ·simp
 rintro i hi
 by_cases hib:i<b.length
 ·have hi1:(i:Int)<b.length:=by omega
  have hg:=o_s2 b i hib
  have hx:b[i]<256:=hb _ (List.getElem_mem ..)
  have hsn:=o_s3 (b.take i) b[i]
  rw [←List.take_succ_eq_append_getElem hib] at hsn
  have hln:=o_s4 (b.take i)
  rw [List.length_take] at hln
  obtain ⟨x,hxe⟩:∃x,b[i]=x:=⟨_,rfl⟩
  rw [hxe] at hx hsn
  have g1:=o_s0 (x/16) (by omega)
  have g2:=o_s0 (x%16) (by omega)
  have b1:(x:Int)/16<16:=by omega
  have b2:bits BinOp.and IntKind.u8 (x:Int) 15=((x%16:Nat):Int):=by
   exact and15 x hx
  have b3:((x:Int)/16).toNat=x/16:=by omega
  have b5:((x:Int)%16).toNat=x%16:=by omega
  have ew:IntKind.i64.wrap ((i:Int)+1)=(i:Int)+1:=w64 (by omega) (by omega)
  by_cases hi0:i=0
  ·rw [if_pos hi0]
   have ht:b.take i=[]:=by rw [hi0];rfl
   rw [ht] at hsn
   simp
   have c1:=wbyZA (dig (x/16))
   have c2:=wbyA [dig (x/16)] (dig (x%16)) (by simp)
   simp only [byO,List.length_singleton] at c1 c2
   refine A10 (fs hi1 (fs hxe (fs hds (fs b2 (fs b3 (fs g1 (fs g2 (fs hbl hib)))))))) ?_;try with_reducible exact tt
   refine CallS.g [0] (c1) (R1 (fs hi1 (fs hxe (fs hds (fs b2 (fs b3 (fs b5 (fs g1 (fs g2 (fs hbl hib))))))))) ?_);try with_reducible exact tt
   refine CallS.g [0,1] (c2) (R1 (fs hi1 (fs hxe (fs hds (fs b2 (fs b3 (fs b5 (fs g1 (fs g2 (fs hbl hib))))))))) ?_);try with_reducible exact tt
   refine A10 ew ?_;try with_reducible exact tt
   have hsn2:hexN (b.take (i+1))=[dig (x/16),dig (x%16)]:=hsn
   refine ⟨i+1,1,2,by simp,by omega,by omega,?_,?_⟩
   ·simp [swT,swH,sw,Ob.sw,V.ren,V.rens]
   ·simp [swT,swH,sw,Ob.sw,V.ren,V.rens,hsn2,byO]
  ·rw [if_neg hi0]
   simp [byO]
   have c1:=wbyA (hexN (b.take i)) (dig (x/16)) (by omega)
   have c2:=wbyA (hexN (b.take i)++[dig (x/16)]) (dig (x%16)) (by simp;omega)
   simp only [byO,List.length_append,List.length_singleton] at c1 c2
   refine A10 (fs hi1 (fs hxe (fs hds (fs b2 (fs b3 (fs b5 (fs g1 (fs g2 (fs hbl hib))))))))) ?_;try with_reducible exact tt
   refine CallS.g [0,1] (c1) (R1 (fs hi1 (fs hxe (fs hds (fs b2 (fs b3 (fs b5 (fs g1 (fs g2 (fs hbl hib))))))))) ?_);try with_reducible exact tt
   refine CallS.g [0,2] (c2) (R1 (fs hi1 (fs hxe (fs hds (fs b2 (fs b3 (fs b5 (fs g1 (fs g2 (fs hbl hib))))))))) ?_);try with_reducible exact tt
   refine A10 ew ?_;try with_reducible exact tt
   have hsn2:hexN (b.take (i+1))=hexN (b.take i)++[dig (x/16),dig (x%16)]:=by rw [hsn];simp
   refine ⟨i+1,1,3,by simp,by omega,by omega,?_,?_⟩
   ·simp [swT,swH,sw,Ob.sw,V.ren,V.rens]
   ·simp [swT,swH,sw,Ob.sw,V.ren,V.rens,hsn2,byO]
 ·have hib2:i=b.length:=by omega
  have hz:¬i=0:=by omega
  rw [if_neg hz]
  have ht:b.take i=b:=List.take_of_length_le (by omega)
  rw [ht]
  have hi1:¬(i:Int)<b.length:=by omega
  have hln:=o_s4 b
  have hbs:=bstrA (hexN b) (o_s6 b hb) (by intro h;rw [h] at hln;simp at hln;omega) (by omega)
  simp only [byO] at hbs
  simp [byO]
  refine A10 hi1 ?_;try with_reducible exact tt
  refine CallS.g [0,1] (hbs) (R1 hi1 ?_);try with_reducible exact tt
end
end Go.Proofs.YtdakiocgijlgiaaGreatDoor.Am
