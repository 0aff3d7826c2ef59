/- Parts of the proof: Pow1, Text1, Tape1, Float1, Flip1, Flip2, Morris1, Pow2, FlatM, AmUn, Chain1, Yu1, YuX, YuW, YuAt, YuAt2, Yu2, Float2, Yu3, Chain2, Chain3, Chain4, Chain5, Chain6, ChainP, Chain7, Chain8, ChainA, ChainM, ChainB, ChainC, ChainD, ChainE, Float3, Rise1, Val1, MorM, Mor1, SortL, Chain9, ChainF, ThinM, Thin1, Thin2, Thin3, Reg1, BitsM, Bits1, Bits2, Bits3, Reg2, DecM, Reg3, Reg4, PackM, Pack1, Pack2, Carr1, Carr2, Carr3, Carr6, Cms1, Dec1, Dec2, Dec3, TxtM, Txt1, TxtN, Txt2, Txt3, Txt4, Txt5, DecT, Dec4, Dec5, DecP, YuP, Carr7, AmLB, Reg5, ChainG, ChainH, AmLaw, Reg6, Carr4, Carr8, Carr9, CarrA, CarrB, Cread, WrA, WrB, WrC, WrD, WrE, WrF, WrG, WrH, AmFm, Val2, Val3, HashM, Dec6, RtA, RtB, RtC, AmCu, AmTT, TabL, PmfM, PmfN, Pmf1, Pmf4, Pmf2, Pmf3, Pmf5. -/
import Derived.Test.YtidfejfgmlakpaaGreatDoorPc
set_option linter.unusedVariables false
set_option linter.unusedSimpArgs false
set_option maxRecDepth 100000
namespace Go.Proofs.YtidfejfgmlakpaaGreatDoor.Am
section
open Go.RowKit
theorem o_oa (m:Nat) (hm:m≤4611686018427387904):bits BinOp.and IntKind.i64 (m:Int) 1=((m%2:Nat):Int):=by
 show IntKind.i64.wrap (((BitVec.ofInt 64 (m:Int)) &&& (BitVec.ofInt 64 (1:Int))).toNat:Int)=_
 have h1:(BitVec.ofInt 64 (1:Int)).toNat=1:=by decide
 rw [BitVec.toNat_and,h1,BitVec.ofInt_natCast,BitVec.toNat_ofNat,Nat.mod_eq_of_lt (by omega),Nat.and_one_is_mod]
 exact w64 (by omega) (by omega)

theorem o_ob {r x m T:Nat} (h:r*x^m=T):(if m%2=1 then r*x else r)*(x*x)^(m/2)=T:=by
 have e:x^m=(x*x)^(m/2)*x^(m%2):=by
  rw [←Nat.pow_two,←Nat.pow_mul,←Nat.pow_add,Nat.div_add_mod]
 rw [←h,e]
 rcases Nat.mod_two_eq_zero_or_one m with h2 | h2
 ·rw [h2,if_neg (by omega)];simp
 ·rw [h2,if_pos rfl,Nat.pow_one,Nat.mul_assoc,Nat.mul_comm x]
theorem o_oc {r x m T:Nat} (h:r*x^m=T) (hm:0<m) (hx:1≤x) (hr:1≤r):x≤T∧r≤T:=by
 have h1:1≤x^m:=Nat.pow_pos hx
 have h2:x≤x^m:=by
  calc x=x^1:=(Nat.pow_one x).symm
   _≤x^m:=Nat.pow_le_pow_right hx hm
 constructor
 ·rw [←h];exact Nat.le_trans h2 (Nat.le_mul_of_pos_left _ hr)
 ·rw [←h];exact Nat.le_mul_of_pos_right _ h1

set_option maxHeartbeats 2000000 in
theorem o_od (a n:Nat) (hn:n≤8192) (hb:bitsN a≤1∨n≤8192/bitsN a) (has:size a≤129):Eqn Tryz.prog o_gz [.d (.agg [natW a]),.d (.int .i64 n)] [] (.tup [.d (.agg [natW (a^n)]),.d (.int .i64 0)]) []:=by
 refine Eqn.pure o_h1 Plain.ok ?_
 have hbits:=o_l9 a (by omega)
 have hof:Eqn Tryz.prog o_c5 [.d (.sl 1 [.int .u64 (1:Nat)])] [] (.d (.agg [natW 1])) []:=by
  have:=o_jl [1] (o_kh (by omega)) (by simp)
  simpa [W,wval] using this
 obtain ⟨q,hq⟩:∃q,bitsN a=q:=⟨_,rfl⟩
 refine cc (c':=?z55) ?_ ?_
 case refine_1=>cbv<;>exact rfl
 have hn0:¬(n:Int)<0:=by omega
 rw [hq] at hbits hb
 obtain ⟨T,hT⟩:∃T,a^n=T:=⟨_,rfl⟩
 have hTs:size T≤129:=by
  rw [←hT]
  by_cases h1:q≤1
  ·have:a≤1:=by have:=o_kn a;rw [hq] at this;have:=Nat.pow_le_pow_right (n:=2) (by omega) h1;omega
   have h2:a^n≤1:=by have:=Nat.pow_le_pow_left this n;rwa [Nat.one_pow] at this
   have:=o_k5 h2
   have:=o_lv (x:=1) (by omega)
   omega
  ·refine o_m3 (n:=q*n+1) ?_ ?_
   ·rw [Nat.pow_succ]
    have h2:=o_kn a
    rw [hq] at h2
    have h3:a^n≤(2^q)^n:=Nat.pow_le_pow_left (Nat.le_of_lt h2) n
    rw [←Nat.pow_mul] at h3
    have:=Nat.two_pow_pos (q*n)
    omega
   ·have h2:n≤8192/q:=hb.resolve_left h1
    rw [Nat.le_div_iff_mul_le (by omega)] at h2
    rw [Nat.mul_comm] at h2
    omega
 obtain ⟨n',hn',hn2⟩:∃n':Nat,n'=(if q≤1 then min n 1 else n)∧a^n'=T:=by
  refine ⟨_,rfl,?_⟩
  by_cases h1:q≤1
  ·have ha1:a≤1:=by have:=o_kn a;rw [hq] at this;have:=Nat.pow_le_pow_right (n:=2) (by omega) h1;omega
   rw [if_pos h1,←hT]
   rcases (by omega:a=0∨a=1) with rfl | rfl
   ·rcases Nat.eq_zero_or_pos n with rfl | hp
    ·rfl
    ·rw [Nat.min_eq_right hp,Nat.zero_pow hp]
   ·rw [Nat.one_pow,Nat.one_pow]
  ·rw [if_neg h1,hT]
 rw [hT]
 by_cases h1:q≤1
 ·rw [if_pos h1] at hn'
  have hq1:¬(1:Int)<q:=by omega
  have hq1n:¬1<q:=by omega
  have hq2:(q:Int)≤1:=by omega
  have hmin:min (n:Int) 1=(n':Int):=by omega
  have hn8:n'≤8192:=by omega
  have hn1:1<n'→1≤a∧1≤1:=fun h=>by omega
  refine G1 hn0 ?_;try with_reducible exact tt
  refine AW.cond rfl (fun h=>?_) (fun h=>?_)
  ·simp [hn0] at h
  refine G0 ?_;try with_reducible exact tt
  refine CallS.pu (hbits) (R1 (fs hq1 (fs hq1n h1)) ?_);try with_reducible exact tt
  refine AW.cond rfl (fun h=>?_) (fun h=>?_)
  ·simp at h
  refine AW.skip ?_
  simp
  refine G0 ?_;try with_reducible exact tt
  refine CallS.pf 2 1 ⟨105,_⟩ [.int .u64 (1:Nat)] (hof) (by first | rfl | (simp;done)) (R0 ?_);try with_reducible exact tt
  refine CallS.pu (hbits) (R1 (fs hq2 h1) ?_);try with_reducible exact tt
  refine AW.cond rfl (fun h=>?_) (fun h=>?_)
  rotate_left
  ·simp [hq2,h1] at h
  refine G1 hmin ?_;try with_reducible exact tt
  refine AW.loopT (α:=Nat×Nat×Nat) 4 (fun s=>[(1,.d (.int .i64 (s.1:Nat)))]) (fun s=>[(0,⟨42,[.d (natW s.2.1)]⟩),(3,⟨42,[.d (natW s.2.2)]⟩)]) (fun s=>s.1≤8192∧s.2.2*s.2.1^s.1=T∧(0<s.1→size s.2.1≤200∧size s.2.2≤200)∧(1<s.1→1≤s.2.1∧1≤s.2.2)) (fun s=>s.1) (n',a,1) ?_ ?_ ⟨hn8,by rw [Nat.one_mul];exact hn2,fun _=>⟨Nat.le_trans has (by omega),Nat.le_trans (o_lv (x:=1) (by omega)) (by omega)⟩,hn1⟩ ?_ ?_ ?_
  ·simp
  ·simp
  ·simp
  ·simp
  clear hn8 hn1 hn2 hn'
  rintro ⟨m,x,r⟩ ⟨hm8,hT2,hsz,hpos⟩
  simp only at hm8 hT2 hsz hpos
  simp
  by_cases hm0:m=0
  ·subst hm0
   rw [Nat.pow_zero,Nat.mul_one] at hT2
   subst hT2
   refine G0 ?_;try with_reducible exact tt
   refine AW.cond rfl (fun h=>?_) (fun h=>?_)
   ·simp at h
   refine AW.exit ?_
   (try (simp -implicitDefEqProofs;try simp (disch:=omega) only [w64,wu64]))
   refine G0 ?_;try with_reducible exact tt
  ·have hm1:(0:Int)<m:=by omega
   have hm2:0<m:=by omega
   obtain ⟨sx,sr⟩:=hsz hm2
   have hand:=o_oa m (by omega)
   have hm1':=o_lu r x (by omega) (by omega)
   have hm2':=o_lu x x (by omega) (by omega)
   have hdv:(m:Int)/2=((m/2:Nat):Int):=rfl
   have hr:=o_ob hT2
   have hnext:(1<m/2→1≤x*x∧1≤(if m%2=1 then r*x else r)):=fun h=>by
    obtain ⟨p1,p2⟩:=hpos (by omega)
    refine ⟨Nat.mul_pos p1 p1,?_⟩
    split
    ·exact Nat.mul_pos p2 p1
    ·exact p2
   have hnext2:(0<m/2→size (x*x)≤200∧size (if m%2=1 then r*x else r)≤200):=fun h=>by
    obtain ⟨p1,p2⟩:=hpos (by omega)
    have q1:1≤x*x:=Nat.mul_pos p1 p1
    have q2:1≤(if m%2=1 then r*x else r):=by
     split
     ·exact Nat.mul_pos p2 p1
     ·exact p2
    obtain ⟨k1,k2⟩:=o_oc hr h q1 q2
    exact ⟨Nat.le_trans (o_k5 k1) (by omega),Nat.le_trans (o_k5 k2) (by omega)⟩
   have hlt2:m/2<m:=by omega
   generalize m/2=hm at *
   rcases Nat.mod_two_eq_zero_or_one m with h2 | h2
   ·rw [h2] at hand hr hnext hnext2
    rw [if_neg (by omega)] at hr hnext hnext2
    refine G1 (fs hm1 hm2) ?_;try with_reducible exact tt
    refine AW.cond rfl (fun h=>?_) (fun h=>?_)
    rotate_left
    ·simp [hm1,hm2] at h
    refine G1 hand ?_;try with_reducible exact tt
    refine AW.cond rfl (fun h=>?_) (fun h=>?_)
    ·simp at h
    refine G0 ?_;try with_reducible exact tt
    refine CallS.pu (hm2') (R1 hdv ?_);try with_reducible exact tt
    repeat (first | refine AW.seq ?_ | refine AW.block ?_ | (refine AW.reg mix ?_;simp -implicitDefEqProofs [hdv];try simp (disch:=omega) only [w64,wu64]) | (refine need.of (by first | omega | kernel_rfl) ?_) | (refine AW.fin ?_;try simp -implicitDefEqProofs [hdv]))
    (try (simp -implicitDefEqProofs [hdv];try simp (disch:=omega) only [w64,wu64]))
    repeat (first | refine AW.seq ?_ | refine AW.block ?_ | (refine AW.reg mix ?_;simp -implicitDefEqProofs [hdv];try simp (disch:=omega) only [w64,wu64]) | (refine need.of (by first | omega | kernel_rfl) ?_) | (refine AW.fin ?_;try simp -implicitDefEqProofs [hdv]))
    exact ⟨hm,_,_,⟨by omega,hr,hnext2,hnext⟩,hlt2,by simp,Subs.refl _,Subs.refl _⟩
   ·rw [h2] at hand hr hnext hnext2
    rw [if_pos rfl] at hr hnext hnext2
    refine G1 (fs hm1 hm2) ?_;try with_reducible exact tt
    refine AW.cond rfl (fun h=>?_) (fun h=>?_)
    rotate_left
    ·simp [hm1,hm2] at h
    refine G1 hand ?_;try with_reducible exact tt
    refine AW.cond rfl (fun h=>?_) (fun h=>?_)
    rotate_left
    ·simp at h
    refine G0 ?_;try with_reducible exact tt
    refine CallS.pu (hm1') (R0 ?_);try with_reducible exact tt
    refine CallS.pu (hm2') (R1 hdv ?_);try with_reducible exact tt
    repeat (first | refine AW.seq ?_ | refine AW.block ?_ | (refine AW.reg mix ?_;simp -implicitDefEqProofs [hdv];try simp (disch:=omega) only [w64,wu64]) | (refine need.of (by first | omega | kernel_rfl) ?_) | (refine AW.fin ?_;try simp -implicitDefEqProofs [hdv]))
    (try (simp -implicitDefEqProofs [hdv];try simp (disch:=omega) only [w64,wu64]))
    repeat (first | refine AW.seq ?_ | refine AW.block ?_ | (refine AW.reg mix ?_;simp -implicitDefEqProofs [hdv];try simp (disch:=omega) only [w64,wu64]) | (refine need.of (by first | omega | kernel_rfl) ?_) | (refine AW.fin ?_;try simp -implicitDefEqProofs [hdv]))
    exact ⟨hm,_,_,⟨by omega,hr,hnext2,hnext⟩,hlt2,by simp,Subs.refl _,Subs.refl _⟩
 ·rw [if_neg h1] at hn'
  rw [hn'] at hn2
  clear hn' n'
  have hq1:(1:Int)<q:=by omega
  have hq1n:1<q:=by omega
  have hq2:¬(q:Int)≤1:=by omega
  have hq0:(q:Int)≠0:=by omega
  have hle:n≤8192/q:=hb.resolve_left h1
  have hdq:IntKind.i64.wrap ((8192:Int).tdiv q)=((8192/q:Nat):Int):=by
   rw [show (8192:Int).tdiv q=((8192/q:Nat):Int) from rfl,w64 (by omega) (by have:=Nat.div_le_self 8192 q;omega)]
  have ha1:1≤a:=by
   rcases Nat.eq_zero_or_pos a with rfl | h
   ·exfalso
    have:bitsN 0≤0:=o_ko (by decide)
    omega
   ·exact h
  have hn8:n≤8192:=hn
  have hn1:1<n→1≤a∧1≤1:=fun _=>⟨ha1,by omega⟩
  generalize 8192/q=dq at *
  have hle2:¬(dq:Int)<n:=by omega
  have hle3:¬dq<n:=by omega
  have hn':True:=trivial
  refine G1 hn0 ?_;try with_reducible exact tt
  refine AW.cond rfl (fun h=>?_) (fun h=>?_)
  ·simp [hn0] at h
  refine G0 ?_;try with_reducible exact tt
  refine CallS.pu (hbits) (R1 (fs hq1 hq1n) ?_);try with_reducible exact tt
  refine CallS.pu (hbits) (R1 (fs hq0 (fs hdq (fs hle2 (fs hle3 (fs hq1 hq1n))))) ?_);try with_reducible exact tt
  refine AW.cond rfl (fun h=>?_) (fun h=>?_)
  ·simp [hle2,hle3] at h
  refine AW.skip ?_
  simp
  refine G0 ?_;try with_reducible exact tt
  refine CallS.pf 2 1 ⟨105,_⟩ [.int .u64 (1:Nat)] (hof) (by first | rfl | (simp;done)) (R0 ?_);try with_reducible exact tt
  refine CallS.pu (hbits) (R1 (fs hq2 h1) ?_);try with_reducible exact tt
  refine AW.cond rfl (fun h=>?_) (fun h=>?_)
  ·simp [hq2,h1] at h
  refine AW.skip ?_
  simp
  refine G0 ?_;try with_reducible exact tt
  refine AW.loopT (α:=Nat×Nat×Nat) 4 (fun s=>[(1,.d (.int .i64 (s.1:Nat)))]) (fun s=>[(0,⟨42,[.d (natW s.2.1)]⟩),(3,⟨42,[.d (natW s.2.2)]⟩)]) (fun s=>s.1≤8192∧s.2.2*s.2.1^s.1=T∧(0<s.1→size s.2.1≤200∧size s.2.2≤200)∧(1<s.1→1≤s.2.1∧1≤s.2.2)) (fun s=>s.1) (n,a,1) ?_ ?_ ⟨hn8,by rw [Nat.one_mul];exact hn2,fun _=>⟨Nat.le_trans has (by omega),Nat.le_trans (o_lv (x:=1) (by omega)) (by omega)⟩,hn1⟩ ?_ ?_ ?_
  ·simp
  ·simp
  ·simp
  ·simp
  clear hn8 hn1 hn2 hn'
  rintro ⟨m,x,r⟩ ⟨hm8,hT2,hsz,hpos⟩
  simp only at hm8 hT2 hsz hpos
  simp
  by_cases hm0:m=0
  ·subst hm0
   rw [Nat.pow_zero,Nat.mul_one] at hT2
   subst hT2
   refine G0 ?_;try with_reducible exact tt
   refine AW.cond rfl (fun h=>?_) (fun h=>?_)
   ·simp at h
   refine AW.exit ?_
   (try (simp -implicitDefEqProofs;try simp (disch:=omega) only [w64,wu64]))
   refine G0 ?_;try with_reducible exact tt
  ·have hm1:(0:Int)<m:=by omega
   have hm2:0<m:=by omega
   obtain ⟨sx,sr⟩:=hsz hm2
   have hand:=o_oa m (by omega)
   have hm1':=o_lu r x (by omega) (by omega)
   have hm2':=o_lu x x (by omega) (by omega)
   have hdv:(m:Int)/2=((m/2:Nat):Int):=rfl
   have hr:=o_ob hT2
   have hnext:(1<m/2→1≤x*x∧1≤(if m%2=1 then r*x else r)):=fun h=>by
    obtain ⟨p1,p2⟩:=hpos (by omega)
    refine ⟨Nat.mul_pos p1 p1,?_⟩
    split
    ·exact Nat.mul_pos p2 p1
    ·exact p2
   have hnext2:(0<m/2→size (x*x)≤200∧size (if m%2=1 then r*x else r)≤200):=fun h=>by
    obtain ⟨p1,p2⟩:=hpos (by omega)
    have q1:1≤x*x:=Nat.mul_pos p1 p1
    have q2:1≤(if m%2=1 then r*x else r):=by
     split
     ·exact Nat.mul_pos p2 p1
     ·exact p2
    obtain ⟨k1,k2⟩:=o_oc hr h q1 q2
    exact ⟨Nat.le_trans (o_k5 k1) (by omega),Nat.le_trans (o_k5 k2) (by omega)⟩
   have hlt2:m/2<m:=by omega
   generalize m/2=hm at *
   rcases Nat.mod_two_eq_zero_or_one m with h2 | h2
   ·rw [h2] at hand hr hnext hnext2
    rw [if_neg (by omega)] at hr hnext hnext2
    refine G1 (fs hm1 hm2) ?_;try with_reducible exact tt
    refine AW.cond rfl (fun h=>?_) (fun h=>?_)
    rotate_left
    ·simp [hm1,hm2] at h
    refine G1 hand ?_;try with_reducible exact tt
    refine AW.cond rfl (fun h=>?_) (fun h=>?_)
    ·simp at h
    refine G0 ?_;try with_reducible exact tt
    refine CallS.pu (hm2') (R1 hdv ?_);try with_reducible exact tt
    repeat (first | refine AW.seq ?_ | refine AW.block ?_ | (refine AW.reg mix ?_;simp -implicitDefEqProofs [hdv];try simp (disch:=omega) only [w64,wu64]) | (refine need.of (by first | omega | kernel_rfl) ?_) | (refine AW.fin ?_;try simp -implicitDefEqProofs [hdv]))
    (try (simp -implicitDefEqProofs [hdv];try simp (disch:=omega) only [w64,wu64]))
    repeat (first | refine AW.seq ?_ | refine AW.block ?_ | (refine AW.reg mix ?_;simp -implicitDefEqProofs [hdv];try simp (disch:=omega) only [w64,wu64]) | (refine need.of (by first | omega | kernel_rfl) ?_) | (refine AW.fin ?_;try simp -implicitDefEqProofs [hdv]))
    exact ⟨hm,_,_,⟨by omega,hr,hnext2,hnext⟩,hlt2,by simp,Subs.refl _,Subs.refl _⟩
   ·rw [h2] at hand hr hnext hnext2
    rw [if_pos rfl] at hr hnext hnext2
    refine G1 (fs hm1 hm2) ?_;try with_reducible exact tt
    refine AW.cond rfl (fun h=>?_) (fun h=>?_)
    rotate_left
    ·simp [hm1,hm2] at h
    refine G1 hand ?_;try with_reducible exact tt
    refine AW.cond rfl (fun h=>?_) (fun h=>?_)
    rotate_left
    ·simp at h
    refine G0 ?_;try with_reducible exact tt
    refine CallS.pu (hm1') (R0 ?_);try with_reducible exact tt
    refine CallS.pu (hm2') (R1 hdv ?_);try with_reducible exact tt
    repeat (first | refine AW.seq ?_ | refine AW.block ?_ | (refine AW.reg mix ?_;simp -implicitDefEqProofs [hdv];try simp (disch:=omega) only [w64,wu64]) | (refine need.of (by first | omega | kernel_rfl) ?_) | (refine AW.fin ?_;try simp -implicitDefEqProofs [hdv]))
    (try (simp -implicitDefEqProofs [hdv];try simp (disch:=omega) only [w64,wu64]))
    repeat (first | refine AW.seq ?_ | refine AW.block ?_ | (refine AW.reg mix ?_;simp -implicitDefEqProofs [hdv];try simp (disch:=omega) only [w64,wu64]) | (refine need.of (by first | omega | kernel_rfl) ?_) | (refine AW.fin ?_;try simp -implicitDefEqProofs [hdv]))
    exact ⟨hm,_,_,⟨by omega,hr,hnext2,hnext⟩,hlt2,by simp,Subs.refl _,Subs.refl _⟩
end
section
open Go.RowKit
def lit1:ByteArray:=⟨#[48,49,50,51,52,53,54,55,56,57,97,98,99,100,101,102,103,104,105,106,107,108,109,110,111,112,113,114,115,116,117,118,119,120,121,122]⟩
def lit2:ByteArray:=⟨#[48,48,48,49,48,50,48,51,48,52,48,53,48,54,48,55,48,56,48,57,49,48,49,49,49,50,49,51,49,52,49,53,49,54,49,55,49,56,49,57,50,48,50,49,50,50,50,51,50,52,50,53,50,54,50,55,50,56,50,57,51,48,51,49,51,50,51,51,51,52,51,53,51,54,51,55,51,56,51,57,52,48,52,49,52,50,52,51,52,52,52,53,52,54,52,55,52,56,52,57,53,48,53,49,53,50,53,51,53,52,53,53,53,54,53,55,53,56,53,57,54,48,54,49,54,50,54,51,54,52,54,53,54,54,54,55,54,56,54,57,55,48,55,49,55,50,55,51,55,52,55,53,55,54,55,55,55,56,55,57,56,48,56,49,56,50,56,51,56,52,56,53,56,54,56,55,56,56,56,57,57,48,57,49,57,50,57,51,57,52,57,53,57,54,57,55,57,56,57,57]⟩
theorem o_oe:lit1.size=36:=by kernel_rfl
theorem o_of:lit2.size=200:=by kernel_rfl
def smallS (n:Nat):ByteArray:=if n<10 then lit1.extract n (n+1) else lit2.extract (n*2) (n*2+2)

theorem o_og (n:Nat) (h:n<100):Eqn Tryz.prog o_fh [.d (.int .i64 n)] [] (.d (.str (smallS n))) []:=by
 refine Eqn.pure o_fj (o_5e _) ?_
 refine cc (c':=?z56) ?_ ?_
 case refine_1=>cbv<;>exact rfl
 rw [show (⟨#[48,49,50,51,52,53,54,55,56,57,97,98,99,100,101,102,103,104,105,106,107,108,109,110,111,112,113,114,115,116,117,118,119,120,121,122]⟩:ByteArray)=lit1 from rfl,show (⟨#[48,48,48,49,48,50,48,51,48,52,48,53,48,54,48,55,48,56,48,57,49,48,49,49,49,50,49,51,49,52,49,53,49,54,49,55,49,56,49,57,50,48,50,49,50,50,50,51,50,52,50,53,50,54,50,55,50,56,50,57,51,48,51,49,51,50,51,51,51,52,51,53,51,54,51,55,51,56,51,57,52,48,52,49,52,50,52,51,52,52,52,53,52,54,52,55,52,56,52,57,53,48,53,49,53,50,53,51,53,52,53,53,53,54,53,55,53,56,53,57,54,48,54,49,54,50,54,51,54,52,54,53,54,54,54,55,54,56,54,57,55,48,55,49,55,50,55,51,55,52,55,53,55,54,55,55,55,56,55,57,56,48,56,49,56,50,56,51,56,52,56,53,56,54,56,55,56,56,56,57,57,48,57,49,57,50,57,51,57,52,57,53,57,54,57,55,57,56,57,57]⟩:ByteArray)=lit2 from rfl]
 have e1:=o_oe
 have e2:=o_of
 generalize hl1:lit1=l1 at *
 generalize hl2:lit2=l2 at *
 by_cases hs:n<10
 ·have hs':(n:Int)<10:=by omega
  refine G1 hs' ?_;try with_reducible exact tt
  refine AW.cond rfl (fun h=>?_) (fun h=>?_)
  ·have ew:IntKind.i64.wrap ((n:Int)+1)=(n:Int)+1:=w64 (by omega) (by omega)
   refine G1 (fs ew e1) ?_;try with_reducible exact tt
   refine Sub1.of ?_
   rw [smallS,if_pos hs,hl1]
  ·simp [hs] at h
 ·have hs':¬(n:Int)<10:=by omega
  refine G1 hs' ?_;try with_reducible exact tt
  refine AW.cond rfl (fun h=>?_) (fun h=>?_)
  ·simp [hs] at h
  ·have ew:IntKind.i64.wrap ((n:Int)*2)=(n:Int)*2:=w64 (by omega) (by omega)
   have ew2:IntKind.i64.wrap ((n:Int)*2+2)=(n:Int)*2+2:=w64 (by omega) (by omega)
   refine G1 (fs ew (fs ew2 e2)) ?_;try with_reducible exact tt
   refine Sub1.of ?_
   rw [smallS,if_neg hs,hl2,show ((n:Int)*2).toNat=n*2 by omega,show ((n:Int)*2+2).toNat=n*2+2 by omega]

@[simp] theorem o_oh:ByteArray.size ⟨#[]⟩=0:=rfl
@[simp] theorem o_oi:ByteArray.size ⟨#[47]⟩=1:=rfl
theorem o_oj (n:Nat) (h:n<100):Eqn Tryz.prog o_ek [.d (.int .u64 n),.d (.int .i64 10)] [] (.d (.str (smallS n))) []:=by
 refine Eqn.pure o_em (o_5e _) ?_
 refine cc (c':=?z57) ?_ ?_
 case refine_1=>cbv<;>exact rfl
 have h1:(n:Int)<100:=by omega
 refine G1 h1 ?_;try with_reducible exact tt
 refine AW.cond rfl (fun h=>?_) (fun h=>?_)
 ·refine G1 h1 ?_;try with_reducible exact tt
  refine AW.cond rfl (fun h=>?_) (fun h=>?_)
  ·have e:IntKind.i64.wrap (n:Int)=n:=w64 (by omega) (by omega)
   refine G1 e ?_;try with_reducible exact tt
   refine CallS.pu (o_og n (by omega)) (R0 ?_);try with_reducible exact tt
  ·simp [h1] at h
 ·simp at h
end
section
open Go.RowKit
def BL (cs:List Bool):D:=.sl cs.length (cs.map .bool)
end
section
open Go.RowKit
theorem o_ok (d:Int):Eqn Tryz.prog o_hb [.d (.int .i64 d)] [] (.d (.bool (decide (0≤d∧d≤8)))) []:=by
 refine Eqn.pure o_hd (o_5e _) ?_
 refine cc (c':=?z62) ?_ ?_
 case refine_1=>cbv<;>exact rfl
 by_cases h:0≤d
 ·refine G1 h ?_;try with_reducible exact tt
 ·refine G1 h ?_;try with_reducible exact tt

def okK (k:Int):Bool:=decide (0≤k∧k≤1023)
def wrongZ (d:Int) (ks:List Int):Int:=if 0≤d∧d≤8 then (if ks.all okK then 0 else 2) else 10

theorem o_ol (d:Int) (ks:List Int) (hn:ks.length≤1000000):Eqn Tryz.prog o_he [.d (.int .i64 d),.d (.sl ks.length (ks.map fun k:Int=>.int .i64 k))] [] (.d (.int .i64 (wrongZ d ks))) []:=by
 refine Eqn.pure o_hg (o_5e _) ?_
 refine cc (c':=?z63) ?_ ?_
 case refine_1=>cbv<;>exact rfl
 refine G0 ?_;try with_reducible exact tt
 refine CallS.pu (o_ok d) (R0 ?_);try with_reducible exact tt
 by_cases hd:0≤d∧d≤8
 ·refine AW.cond rfl (fun h=>?_) (fun h=>?_)
  ·simp [hd] at h
  refine G0 ?_;try with_reducible exact tt
  refine AW.loopT (α:=Nat) 0 (fun i=>[(12,.d (.int .i64 (i:Int)))]) (fun i=>[]) (fun i=>i≤ks.length∧(ks.take i).all okK=true) (fun i=>ks.length-i) 0 ?_ ?_ ⟨Nat.zero_le _,by simp⟩ ?_ ?_ ?_
  ·simp
  ·simp
  ·simp
  ·simp
  rintro i ⟨hi,hall⟩
  simp
  by_cases h:i=ks.length
  ·subst h
   rw [List.take_length] at hall
   refine G0 ?_;try with_reducible exact tt
   refine AW.cond rfl (fun h=>?_) (fun h=>?_)
   ·simp at h
   refine G0 ?_;try with_reducible exact tt
   refine Sub1.int ?_
   rw [wrongZ,if_pos hd,if_pos hall]
  ·have hi':i<ks.length:=by omega
   have hp:(i:Int)<ks.length:=by omega
   refine G1 (fs hi' hp) ?_;try with_reducible exact tt
   refine AW.cond rfl (fun h=>?_) (fun h=>?_)
   ·have hbad:okK ks[i]=false→wrongZ d ks=2:=by
     intro hb
     rw [wrongZ,if_pos hd,if_neg]
     intro ha
     rw [List.all_eq_true] at ha
     have:=ha ks[i] (List.getElem_mem _)
     rw [hb] at this;cases this
    by_cases h0:ks[i]<0
    ·refine G1 (fs hi' (fs hp h0)) ?_;try with_reducible exact tt
     refine AW.cond rfl (fun h=>?_) (fun h=>?_)
     ·refine G0 ?_;try with_reducible exact tt
      refine Sub1.int ?_
      rw [hbad (by simp [okK];omega)]
     ·simp [h0] at h
    ·by_cases h1:1023<ks[i]
     ·refine G1 (fs hi' (fs hp (fs h0 h1))) ?_;try with_reducible exact tt
      refine AW.cond rfl (fun h=>?_) (fun h=>?_)
      ·refine G0 ?_;try with_reducible exact tt
       refine Sub1.int ?_
       rw [hbad (by simp [okK];omega)]
      ·simp [h0,h1] at h
     ·refine G1 (fs hi' (fs hp (fs h0 h1))) ?_;try with_reducible exact tt
      refine AW.cond rfl (fun h=>?_) (fun h=>?_)
      ·simp [h0,h1] at h
      have ew:IntKind.i64.wrap ((i:Int)+1)=(i:Int)+1:=w64 (by omega) (by omega)
      refine G1 ew ?_;try with_reducible exact tt
      refine ⟨i+1,⟨by omega,?_⟩,by omega,by simp⟩
      rw [List.take_add_one,List.getElem?_eq_getElem hi']
      intro x hx
      rcases List.mem_append.1 hx with hx | hx
      ·exact List.all_eq_true.1 hall x hx
      ·simp at hx
       subst hx
       simp [okK];omega
   ·simp [hi'] at h
 ·refine AW.cond rfl (fun h=>?_) (fun h=>?_)
  ·refine G0 ?_;try with_reducible exact tt
   refine Sub1.int ?_
   rw [wrongZ,if_neg hd]
  ·simp at h
   exact absurd h hd

def partV (d k:Nat):Int:=bits .and .i64 k (IntKind.i64.wrap (IntKind.i64.wrap (2^d)-1))
theorem o_om (d k:Nat) (hd:d≤8) (hk:k≤1023):Eqn Tryz.prog o_hh [.d (.int .i64 d),.d (.int .i64 k)] [] (.tup [.d (.int .i64 (k/2^d:Nat)),.d (.int .i64 (partV d k))]) []:=by
 refine Eqn.pure o_hj (o_k0 _ _) ?_
 refine cc (c':=?z64) ?_ ?_
 case refine_1=>cbv<;>exact rfl
 refine G0 ?_;try with_reducible exact tt
 exact Sub1.of rfl

theorem o_on (d k:Int):Eqn Tryz.prog o_he [.d (.int .i64 d),.d (.sl 1 [.int .i64 k])] [] (.d (.int .i64 (wrongZ d [k]))) []:=o_ol d [k] (by simp)
end
section
open Go.RowKit
end
section
open Go.RowKit
end
section
open Go.RowKit
theorem o_oo (d:Int):Eqn Tryz.prog o_gn [.d (.int .i64 d)] [] (.d (.bool (decide (1≤d∧d≤4096)))) []:=by
 refine Eqn.pure o_gp (o_5e _) ?_
 refine cc (c':=?z66) ?_ ?_
 case refine_1=>cbv<;>exact rfl
 by_cases h:1≤d
 ·refine G1 h ?_;try with_reducible exact tt
 ·refine G1 h ?_;try with_reducible exact tt

def wrongM (d:Int) (ks:List Int):Int:=if 1≤d∧d≤4096 then (if ks.all okK then 0 else 2) else 10

theorem o_op (d:Int) (ks:List Int) (hn:ks.length≤1000000):Eqn Tryz.prog o_gq [.d (.int .i64 d),.d (.sl ks.length (ks.map fun k:Int=>.int .i64 k))] [] (.d (.int .i64 (wrongM d ks))) []:=by
 refine Eqn.pure o_gs (o_5e _) ?_
 refine cc (c':=?z67) ?_ ?_
 case refine_1=>cbv<;>exact rfl
 refine G0 ?_;try with_reducible exact tt
 refine CallS.pu (o_oo d) (R0 ?_);try with_reducible exact tt
 by_cases hd:1≤d∧d≤4096
 ·refine AW.cond rfl (fun h=>?_) (fun h=>?_)
  ·simp [hd] at h
  refine G0 ?_;try with_reducible exact tt
  refine AW.loopT (α:=Nat) 0 (fun i=>[(12,.d (.int .i64 (i:Int)))]) (fun i=>[]) (fun i=>i≤ks.length∧(ks.take i).all okK=true) (fun i=>ks.length-i) 0 ?_ ?_ ⟨Nat.zero_le _,by simp⟩ ?_ ?_ ?_
  ·simp
  ·simp
  ·simp
  ·simp
  rintro i ⟨hi,hall⟩
  simp
  by_cases h:i=ks.length
  ·subst h
   rw [List.take_length] at hall
   refine G0 ?_;try with_reducible exact tt
   refine AW.cond rfl (fun h=>?_) (fun h=>?_)
   ·simp at h
   refine G0 ?_;try with_reducible exact tt
   refine Sub1.int ?_
   rw [wrongM,if_pos hd,if_pos hall]
  ·have hi':i<ks.length:=by omega
   have hp:(i:Int)<ks.length:=by omega
   refine G1 (fs hi' hp) ?_;try with_reducible exact tt
   refine AW.cond rfl (fun h=>?_) (fun h=>?_)
   ·have hbad:okK ks[i]=false→wrongM d ks=2:=by
     intro hb
     rw [wrongM,if_pos hd,if_neg]
     intro ha
     rw [List.all_eq_true] at ha
     have:=ha ks[i] (List.getElem_mem _)
     rw [hb] at this;cases this
    by_cases h0:ks[i]<0
    ·refine G1 (fs hi' (fs hp h0)) ?_;try with_reducible exact tt
     refine AW.cond rfl (fun h=>?_) (fun h=>?_)
     ·refine G0 ?_;try with_reducible exact tt
      refine Sub1.int ?_
      rw [hbad (by simp [okK];omega)]
     ·simp [h0] at h
    ·by_cases h1:1023<ks[i]
     ·refine G1 (fs hi' (fs hp (fs h0 h1))) ?_;try with_reducible exact tt
      refine AW.cond rfl (fun h=>?_) (fun h=>?_)
      ·refine G0 ?_;try with_reducible exact tt
       refine Sub1.int ?_
       rw [hbad (by simp [okK];omega)]
      ·simp [h0,h1] at h
     ·refine G1 (fs hi' (fs hp (fs h0 h1))) ?_;try with_reducible exact tt
      refine AW.cond rfl (fun h=>?_) (fun h=>?_)
      ·simp [h0,h1] at h
      have ew:IntKind.i64.wrap ((i:Int)+1)=(i:Int)+1:=w64 (by omega) (by omega)
      refine G1 ew ?_;try with_reducible exact tt
      refine ⟨i+1,⟨by omega,?_⟩,by omega,by simp⟩
      rw [List.take_add_one,List.getElem?_eq_getElem hi']
      intro x hx
      rcases List.mem_append.1 hx with hx | hx
      ·exact List.all_eq_true.1 hall x hx
      ·simp at hx
       subst hx
       simp [okK];omega
   ·simp [hi'] at h
 ·refine AW.cond rfl (fun h=>?_) (fun h=>?_)
  ·refine G0 ?_;try with_reducible exact tt
   refine Sub1.int ?_
   rw [wrongM,if_neg hd]
  ·simp at h
   exact absurd h hd

theorem o_oq (d k:Int):Eqn Tryz.prog o_gq [.d (.int .i64 d),.d (.sl 1 [.int .i64 k])] [] (.d (.int .i64 (wrongM d [k]))) []:=o_op d [k] (by simp)
end
section
open Go.RowKit
theorem o_or (x:Rat):∀n:Nat,x^n=mkRat (x.num^n) (x.den^n)
 | 0=>by rw [Rat.pow_zero,Int.pow_zero,Nat.pow_zero];rfl
 | n+1=>by
  rw [Rat.pow_succ,o_or x n]
  conv=>lhs;rhs;rw [←Rat.mkRat_self x]
  rw [Rat.mkRat_mul_mkRat,Int.pow_succ,Nat.pow_succ]

theorem o_os (x:Rat) (n:Nat) (hx:0≤x.num) (hn:n≤8192) (hb1:bitsN x.num.natAbs≤1∨n≤8192/bitsN x.num.natAbs) (hb2:bitsN x.den≤1∨n≤8192/bitsN x.den) (hs:RS x 129) (hs1:size (x.num.natAbs^n)≤130) (hs2:size (x.den^n)≤130) :
  Eqn Tryz.prog o_gw [.d (rD x),.d (.int .i64 n)] [] (.tup [.d (rD (x^n)),.d (.int .i64 0)]) []:=by
 refine Eqn.pure o_gy Plain.ok ?_
 have h1:=o_od x.num.natAbs n hn hb1 hs.1
 have h2:=o_od x.den n hn hb2 hs.2
 have h3:=o_o2 x (by have:=hs.2;omega)
 have hneg:decide (x.num<0)=false:=by rw [decide_eq_false_iff_not];omega
 have hab:=o_lx x.num.natAbs (decide (x.num<0))
 have hng:=o_ly x.num.natAbs (decide (x.num<0))
 have h4:=o_nu false (x.num.natAbs^n) (x.num^n) (by rw [if_neg (by simp),Int.natCast_pow,Int.natAbs_of_nonneg hx])
 have e:(x.num^n).natAbs=x.num.natAbs^n:=Int.natAbs_pow _ _
 have h5:=o_o1 (x.num^n) (x.den^n) (Nat.pow_pos x.den_pos) (by rw [e];omega) (by omega)
 rw [←o_or] at h5
 refine cc (c':=?z68) ?_ ?_
 case refine_1=>cbv<;>exact rfl
 try simp only [rD,hneg] at hab hng h3 h5 ⊢
 generalize hz:x.num^n=z at *
 simp only [wD] at h4 h5
 refine G0 ?_;try with_reducible exact tt
 refine CallS.pu (hab) (R0 ?_);try with_reducible exact tt
 refine CallS.pu (h1) (R0 ?_);try with_reducible exact tt
 refine AW.cond rfl (fun h=>?_) (fun h=>?_)
 ·simp at h
 refine G0 ?_;try with_reducible exact tt
 refine CallS.pu (h3) (R0 ?_);try with_reducible exact tt
 refine CallS.pu (h2) (R0 ?_);try with_reducible exact tt
 refine AW.cond rfl (fun h=>?_) (fun h=>?_)
 ·simp at h
 refine G0 ?_;try with_reducible exact tt
 refine CallS.pu (hng) (R0 ?_);try with_reducible exact tt
 refine CallS.pu (h4) (R0 ?_);try with_reducible exact tt
 refine CallS.pu (h5) (R0 ?_);try with_reducible exact tt

theorem o_ot (n:Nat) (h:n<9223372036854775808):Eqn Tryz.prog o_8s [.d (.int .i64 n)] [] (.d (rD (n:Rat))) []:=by
 refine Eqn.pure o_8u (o_5e _) ?_
 have h1:=o_lz n h
 have e:rD (n:Rat) = .agg [natW n,.bool false,natW 0]:=by
  unfold rD
  rw [Rat.num_natCast,Rat.den_natCast,Int.natAbs_natCast]
  congr 4
 rw [e]
 refine cc (c':=?z69) ?_ ?_
 case refine_1=>cbv<;>exact rfl
 refine G0 ?_;try with_reducible exact tt
 refine CallS.pu (h1) (R0 ?_);try with_reducible exact tt
 exact Sub1.rat0

theorem o_ou (p q:Nat) (hp:p<9223372036854775808) (hq:q<9223372036854775808) (h0:0<q):Eqn Tryz.prog o_gt [.d (.int .i64 p),.d (.int .i64 q)] [] (.tup [.d (rD (mkRat p q)),.d (.int .i64 0)]) []:=by
 have hfr:Eqn Tryz.prog o_f8 [.d (.agg [natW p,.bool false]),.d (.agg [natW q,.bool false])] [] (.tup [.d (rD (mkRat p q)),.d (.int .i64 0)]) []:=by
  refine Eqn.pure o_fa Plain.ok ?_
  have ha:=o_lx q false
  have hp1:=o_lx p false
  have hn1:=o_ly p false
  have hn2:=o_ly q false
  have hz:=o_jm q
  have hq0:(q==0)=false:=by simp;omega
  rw [hq0] at hz
  have h4:=o_nu false p (p:Int) rfl
  have h5:=o_o1 (p:Int) q h0 (by rw [Int.natAbs_natCast];exact Nat.le_trans (o_lv (by omega)) (by omega)) (Nat.le_trans (o_lv (by omega)) (by omega))
  have e2:wD (p:Int) = .agg [natW p,.bool false]:=by
   unfold wD
   rw [Int.natAbs_natCast]
   congr 4
  rw [e2] at h4 h5
  refine cc (c':=?z70) ?_ ?_
  case refine_1=>cbv<;>exact rfl
  try simp only [rD] at h5 ⊢
  refine G0 ?_;try with_reducible exact tt
  refine CallS.pu (ha) (R0 ?_);try with_reducible exact tt
  refine CallS.pu (hz) (R0 ?_);try with_reducible exact tt
  refine AW.cond rfl (fun h=>?_) (fun h=>?_)
  ·simp at h
  refine G0 ?_;try with_reducible exact tt
  refine CallS.pu (hn1) (R0 ?_);try with_reducible exact tt
  refine CallS.pu (hn2) (R0 ?_);try with_reducible exact tt
  refine CallS.pu (hp1) (R0 ?_);try with_reducible exact tt
  refine CallS.pu (h4) (R0 ?_);try with_reducible exact tt
  refine CallS.pu (ha) (R0 ?_);try with_reducible exact tt
  refine CallS.pu (h5) (R0 ?_);try with_reducible exact tt
 refine Eqn.pure o_gv Plain.ok ?_
 have h1:=o_lz p hp
 have h2:=o_lz q hq
 refine cc (c':=?z71) ?_ ?_
 case refine_1=>cbv<;>exact rfl
 try simp only [rD] at hfr ⊢
 refine G0 ?_;try with_reducible exact tt
 refine CallS.pu (h1) (R0 ?_);try with_reducible exact tt
 refine CallS.pu (h2) (R0 ?_);try with_reducible exact tt
 refine CallS.pu (hfr) (R0 ?_);try with_reducible exact tt
end
section
section
variable {α β:Type} {f:α→List β} {n:Nat}
theorem o_ov (hf:∀x,(f x).length=n):∀l:List α,(l.flatMap f).length=l.length*n
 | []=>by simp
 | x::l=>by rw [List.flatMap_cons,List.length_append,hf,o_ov hf l,List.length_cons,Nat.add_mul];omega
theorem o_ow (hf:∀x,(f x).length=n):∀(l:List α) (i:Nat),(l.flatMap f).drop (i*n)=(l.drop i).flatMap f
 | l,0=>by simp
 | [],i+1=>by simp
 | x::l,i+1=>by
  rw [List.flatMap_cons,List.drop_succ_cons,←o_ow hf l i]
  have h:=hf x
  rw [List.drop_append,List.drop_of_length_le (by rw [h,Nat.add_mul];omega),h,Nat.add_mul]
  simp
theorem o_ox (hf:∀x,(f x).length=n) (l:List α) (i:Nat) (h:i<l.length):((l.flatMap f).drop (i*n)).take n=f l[i]:=by
 rw [o_ow hf,List.drop_eq_getElem_cons h,List.flatMap_cons]
 conv=>lhs;arg 1;rw [←hf l[i]]
 simp
end
end
section
open Go.RowKit
section
variable {P:Program} {L:Nat} {Q:Exit→List V→List (Option Ob)→Prop} {T:List V} {H:List (Option Ob)} {x:C}
def AWu (P:Program) (L:Nat) (x:C) (Q:Exit→List V→List (Option Ob)→Prop):Nat→List V→List (Option Ob)→Prop
 | 0,_,_=>False
 | n+1,T,H=>AW P L x (thenQ (AWu P L x Q n) Q) T H
theorem AW.rounds (n:Nat) (h:AWu P L x Q n T H):AW P L (.loop x) Q T H:=by
 refine AW.loop (fun k T H=>AWu P L x Q k T H) n h fun k T H hk=>?_
 cases k with
 | zero=>exact hk.elim
 | succ k =>
  refine AW.mono hk fun e T' H' hq=>?_
  cases e<;>first | exact ⟨k,Nat.lt_succ_self k,hq⟩ | exact hq
theorem AWu.next {n:Nat} (h:AW P L x (thenQ (AWu P L x Q n) Q) T H):AWu P L x Q (n+1) T H:=h
end
theorem EqnD.sub {P:Program} {f:FuncId} {args args':List V} {Hs Hs':List Ob} {X:V} {dead:List Nat} (E:EqnD P f args' Hs X Hs' dead) (h:Subs args args'):EqnD P f args Hs X Hs' dead :=
 ⟨E.len,E.old,E.lowx,E.lowo,fun m vs hb hv=>E.run m vs hb (h m vs hv)⟩
end
section
open Go.RowKit
theorem o_oy : MethOK Tryz.prog 147 "tallymark/chain.good" o_gh := fun v w => by kernel_rfl
theorem o_oz : MethOK Tryz.prog 148 "tallymark/chain.good" o_h5 := fun v w => by kernel_rfl
theorem o_p0 : MethOK Tryz.prog 149 "tallymark/chain.good" o_hn := fun v w => by kernel_rfl
theorem o_p1 (a:Int):Eqn Tryz.prog o_gh [.d (.int .i64 a)] [] (.d (.bool (decide (1≤a∧a≤4096)))) []:=by
 refine Eqn.pure o_gj (o_5e _) ?_
 refine cc (c':=?z72) ?_ ?_
 case refine_1=>cbv<;>exact rfl
 refine G0 ?_;try with_reducible exact tt
 refine CallS.pu (o_oo a) (R0 ?_);try with_reducible exact tt
theorem o_p2 (a:Int):Eqn Tryz.prog o_h5 [.d (.int .i64 a)] [] (.d (.bool (decide (0≤a∧a≤8)))) []:=by
 refine Eqn.pure o_h7 (o_5e _) ?_
 refine cc (c':=?z73) ?_ ?_
 case refine_1=>cbv<;>exact rfl
 refine G0 ?_;try with_reducible exact tt
 refine CallS.pu (o_ok a) (R0 ?_);try with_reducible exact tt

def kindD (k a:Int):D:=if k=1 then .ifc 147 (.int .i64 a) else if k=2 then .ifc 148 (.int .i64 a) else if k=3 then .ifc 149 (.int .i64 a) else .nilifc
theorem o_p3 (k a w:Int):Eqn Tryz.prog o_cz [.d (.agg [.int .i64 k,.int .i64 a,.int .i64 w])] [] (.d (kindD k a)) []:=by
 refine Eqn.pure o_d1 (o_5e _) ?_
 refine cc (c':=?z74) ?_ ?_
 case refine_1=>cbv<;>exact rfl
 try simp only [kindD]
 refine G0 ?_;try with_reducible exact tt
 refine AW.cond rfl (fun h=>?_) (fun h=>?_)
 ·have hk:k=1:=by simpa using h
  subst hk
  refine G0 ?_;try with_reducible exact tt
 have h1:¬k=1:=by simpa using h
 clear h
 refine G1 h1 ?_;try with_reducible exact tt
 refine AW.cond rfl (fun h=>?_) (fun h=>?_)
 ·have hk:k=2:=by simpa using h
  subst hk
  refine G0 ?_;try with_reducible exact tt
 have h2:¬k=2:=by simpa using h
 clear h
 refine G1 (fs h1 h2) ?_;try with_reducible exact tt
 refine AW.cond rfl (fun h=>?_) (fun h=>?_)
 ·have hk:k=3:=by simpa using h
  subst hk
  refine G0 ?_;try with_reducible exact tt
 have h3:¬k=3:=by simpa using h
 clear h
 refine G1 (fs h1 (fs h2 h3)) ?_;try with_reducible exact tt
end
section
open Go.RowKit
theorem o_p4 (s:Int):Eqn Tryz.prog o_ht [.d (.int .i64 s)] [] (.d (.bool (decide (1≤s∧s≤5)))) []:=by
 refine Eqn.pure o_hv (o_5e _) ?_
 refine cc (c':=?z75) ?_ ?_
 case refine_1=>cbv<;>exact rfl
 by_cases h:1≤s
 ·refine G1 h ?_;try with_reducible exact tt
 ·refine G1 h ?_;try with_reducible exact tt

theorem o_p5 {x m:Nat} (h:x<2^(64*m)):size x≤m:=by
 apply o_ix (o_jd x)
 rw [o_jb,show (18446744073709551616:Nat)=2^64 by rfl,←Nat.pow_mul]
 exact h

theorem o_p6 {a b m:Nat} (ha:size a≤m) (hb:size b≤m):size (a+b)≤m+1:=by
 refine o_p5 ?_
 have h1:=o_ig (o_jc a)
 have h2:=o_ig (o_jc b)
 rw [o_jb,show (18446744073709551616:Nat)=2^64 by rfl,←Nat.pow_mul] at h1 h2
 have h3:(2:Nat)^(64*(words a).length)≤2^(64*m):=Nat.pow_le_pow_right (by omega) (by unfold size at ha;omega)
 have h4:(2:Nat)^(64*(words b).length)≤2^(64*m):=Nat.pow_le_pow_right (by omega) (by unfold size at hb;omega)
 have h5:(2:Nat)^(64*(m+1))=2^(64*m)*18446744073709551616:=by rw [show 64*(m+1)=64*m+64 by omega,Nat.pow_add]
 rw [h5]
 generalize (2:Nat)^(64*m)=z at *
 omega

theorem o_p7 {x n m:Nat} (h:x<2^n) (hm:n≤64*m):size x≤m :=
 o_p5 (Nat.lt_of_lt_of_le h (Nat.pow_le_pow_right (by omega) hm))
theorem o_p8 (t:Nat):bitsN t≤64*size t:=by
 apply o_ko
 have h1:=o_ig (o_jc t)
 rw [o_jb,show (18446744073709551616:Nat)=2^64 by rfl,←Nat.pow_mul] at h1
 exact h1
theorem o_p9 (s t:Nat) (hs:s≤5) (ht:size t≤1000):Eqn Tryz.prog o_i7 [.d (.int .i64 s),.d (.agg [natW t])] [] (.d (.int .i64 (shiftY s t))) []:=by
 refine Eqn.pure o_i9 (o_5e _) ?_
 refine cc (c':=?z76) ?_ ?_
 case refine_1=>cbv<;>exact rfl
 have hb:=o_p8 t
 refine G0 ?_;try with_reducible exact tt
 refine CallS.pu (o_l9 t (by omega)) (R0 ?_);try with_reducible exact tt
 have e1:IntKind.i64.wrap ((bitsN t:Int)-1)=(bitsN t:Int)-1:=w64 (by omega) (by omega)
 have e2:IntKind.i64.wrap (2*(s:Int))=2*(s:Int):=w64 (by omega) (by omega)
 have e3:IntKind.i64.wrap ((bitsN t:Int)-1-2*(s:Int))=(bitsN t:Int)-1-2*(s:Int):=w64 (by omega) (by omega)
 have e4:max 0 ((bitsN t:Int)-1-2*(s:Int))=(shiftY s t:Int):=by unfold shiftY;omega
 simp [e1,e2,e3,e4]

theorem o_pa (s t:Nat) (hs:s≤5) (ht:size t≤1000):Eqn Tryz.prog o_i4 [.d (.int .i64 s),.d (.agg [natW t])] [] (.d (.agg [natW (moreY s t)])) []:=by
 refine Eqn.pure o_i6 (o_5e _) ?_
 refine cc (c':=?z77) ?_ ?_
 case refine_1=>cbv<;>exact rfl
 have hq:=Nat.div_le_self t (2^s)
 have hq2:=Nat.div_mul_le_self t (2^s)
 have hm:moreY s t=t+(if t/2^s*2^s<t then t/2^s+1 else t/2^s):=rfl
 rw [hm]
 have s1:=o_k5 hq
 have s2:=o_k5 hq2
 have s1':size 1≤1:=o_lv (by omega)
 refine G0 ?_;try with_reducible exact tt
 refine CallS.pu (o_lh t s (by omega) (by omega)) (R0 ?_);try with_reducible exact tt
 refine CallS.pu (o_kf (t/2^s) s (by omega) (by omega)) (R0 ?_);try with_reducible exact tt
 generalize hQ:t/2^s=q at *
 generalize q*2^s=b at *
 refine CallS.pu (o_jo b t (by omega) (by omega)) (R0 ?_);try with_reducible exact tt
 have hb:size (q+1)≤1001:=by
  have:=o_p6 (a:=q) (b:=1) (m:=1000) (by omega) (by omega)
  omega
 by_cases hlt:b<t
 ·simp only [if_pos hlt]
  refine AW.cond rfl (fun h=>?_) (fun h=>?_)
  ·refine G0 ?_;try with_reducible exact tt
   refine CallS.pf 4 1 ⟨105,_⟩ [.int .u64 (1:Nat)] (o_jl [1] (o_kh (by omega)) (by simp)) (by first | rfl | (simp;done)) (R0 ?_);try with_reducible exact tt
   refine CallS.pu (o_k2 q 1 (by omega) (by omega)) (R0 ?_);try with_reducible exact tt
   refine CallS.pu (o_k2 t (q+1) (by omega) (by omega)) (R0 ?_);try with_reducible exact tt
  ·simp [o_ki,hlt] at h
 ·simp only [if_neg hlt]
  refine AW.cond rfl (fun h=>?_) (fun h=>?_)
  ·simp [o_ki,hlt] at h
  ·refine G0 ?_;try with_reducible exact tt
   refine CallS.pu (o_k2 t q (by omega) (by omega)) (R0 ?_);try with_reducible exact tt

def plD (p:Pl):D:=.agg [.int .i64 p.x,.int .i64 p.shift,natW p.value,natW p.reply]

theorem o_pb {s t:Nat}:moreY s t≤4*t:=by
 unfold moreY
 have h1:=Nat.div_le_self t (2^s)
 split
 ·rename_i h
  have:0<t:=by omega
  omega
 ·omega

theorem o_pc (s:Nat) (p:Pl) (hs:s≤5) (hx:p.x≤100000) (h1:p.shift≤8192) (h2:size p.value≤900) (h3:size p.reply≤900) :
  Eqn Tryz.prog o_i1 [.d (plD p),.d (.int .i64 s)] [] (.d (plD (nextY s p))) []:=by
 refine Eqn.pure o_i3 (o_5e _) ?_
 obtain ⟨x,sh,v,r⟩:=p
 simp only at hx h1 h2 h3
 refine cc (c':=?z78) ?_ ?_
 case refine_1=>cbv<;>exact rfl
 try simp only [plD,nextY]
 have s1:size 1≤1:=o_lv (by omega)
 have hsz:size (1*2^sh)≤129:=o_p7 (n:=sh+1) (by rw [Nat.one_mul];exact Nat.pow_lt_pow_right (by omega) (Nat.lt_succ_self _)) (by omega)
 have hv:=o_p6 (m:=900) h2 (by omega:size (1*2^sh)≤900)
 refine G0 ?_;try with_reducible exact tt
 refine CallS.pf 2 1 ⟨105,_⟩ [.int .u64 (1:Nat)] (o_jl [1] (o_kh (by omega)) (by simp)) (by first | rfl | (simp;done)) (R0 ?_);try with_reducible exact tt
 refine CallS.pu (o_kf 1 sh (by omega) h1) (R0 ?_);try with_reducible exact tt
 rw [Nat.one_mul] at hsz hv
 generalize 2^sh=st at *
 refine CallS.pu (o_k2 v st (by omega) (by omega)) (R0 ?_);try with_reducible exact tt
 refine CallS.pu (o_jo (v+st) r (by omega) (by omega)) (R0 ?_);try with_reducible exact tt
 have hge:(0≤cmpZ (v+st) r)↔r≤v+st:=by
  unfold cmpZ;split<;>(try split)<;>omega
 by_cases hr:r≤v+st
 ·simp only [if_pos hr]
  have ew:IntKind.i64.wrap ((x:Int)+1)=(x:Int)+1:=w64 (by omega) (by omega)
  refine AW.cond rfl (fun h=>?_) (fun h=>?_)
  ·have hm:=o_pb (s:=s) (t:=r)
   have hms:=o_k5 hm
   have hrr:=o_p6 h3 h3
   have hmsz:size (moreY s r)≤1000:=by
    have:=o_p6 hrr hrr
    have h4:r+r+(r+r)=4*r:=by omega
    rw [h4] at this
    omega
   refine G1 ew ?_;try with_reducible exact tt
   refine CallS.pu (o_pa s r hs (by omega)) (R0 ?_);try with_reducible exact tt
   refine CallS.pu (o_p9 s (moreY s r) hs hmsz) (R0 ?_);try with_reducible exact tt
  ·simp [hge,hr] at h
 ·simp only [if_neg hr]
  refine AW.cond rfl (fun h=>?_) (fun h=>?_)
  ·simp [hge,hr] at h
  ·refine G0 ?_;try with_reducible exact tt
end
section
open Go.RowKit
theorem o_pd (s:Nat):Eqn Tryz.prog n_yu_walk [.d (.int .i64 s)] [] (.fn (.func o_hz) [.p 0 0]) [⟨3,[.d (.int .i64 s)]⟩]:=by
 refine Eqn.newX r_yu_walk rfl ⟨rfl,fun _=>rfl⟩ (fun n=>rfl) ?_
 refine cc (c':=?z79) ?_ ?_
 case refine_1=>cbv<;>exact rfl
 refine G0 ?_;try with_reducible exact tt
 exact ⟨0,Sub1.refl _,_,rfl,rfl,Subs.refl _⟩

structure WalkS where
 r0:C
 r1:C
 g:C
 os:List O
 call:Option (Nat×List Nat×Option Nat)
 o4:O
 cy:X
 r5:C
 r6:C
 ids:Nat×Nat
 calm:Bool
 res:Nat
 nt:Nat
def callS (o:Oper):Option (Nat×List Nat×Option Nat):=match o.op,o.guard with
 | .call c,none=>match c.callee,c.args.toList with
  | .value (.tmp f),[.tmp x,.tmp y]=>some (f,[x,y],o.dst)
  | _,_=>none
 | _,_=>none
def walkS (P:Program) (f:FuncId):Option WalkS:=match P.funcs[f]? with
 | some fn=>match fn.body with
  | some (.seq r0 (.seq r1 (.block i0 (.loop (.seq g (.seq (.block i1 (.seq (.seq (.region _ ops false) (.cond cy .ret .skip)) r5)) r6))))))=>match ops.toList with
   | [o0,o1,o2,o3,o4]=>some ⟨resolveC P r0,resolveC P r1,resolveC P g,[o0,o1,o2].map (resolveO P ops),callS o3,resolveO P ops o4,X.of cy,resolveC P r5,resolveC P r6,(i0,i1),[o0,o1,o2].all notDefer&&[o4].all notDefer,fn.results.size,fn.ntmps⟩
   | _=>none
  | _=>none
 | none=>none
theorem o_pe {P:Program} {f:FuncId} {s:WalkS} (h:walkS P f=some s):∃(fn:Func) (r0 r1 g r5 r6:Code) (i id:Nat) (ops:Array Oper) (o0 o1 o2 o3 o4:Oper) (cy:Operand),
  P.funcs[f]?=some fn∧fn.body=some (.seq r0 (.seq r1 (.block s.ids.1 (.loop (.seq g (.seq (.block s.ids.2 (.seq (.seq (.region id ops false) (.cond cy .ret .skip)) r5)) r6))))))∧ops.toList=[o0,o1,o2,o3,o4] ∧
  resolveC P r0=s.r0∧resolveC P r1=s.r1∧resolveC P g=s.g∧[o0,o1,o2].map (resolveO P ops)=s.os∧callS o3=s.call∧resolveO P ops o4=s.o4∧X.of cy=s.cy∧resolveC P r5=s.r5∧resolveC P r6=s.r6∧([o0,o1,o2].all notDefer&&[o4].all notDefer)=s.calm∧fn.results.size=s.res∧fn.ntmps=s.nt:=by
 unfold walkS at h
 split at h
 ·rename_i fn hf
  split at h
  ·rename_i r0 r1 i0 g i1 id ops cy r5 r6 hb
   split at h
   ·rename_i o0 o1 o2 o3 o4 ho
    cases h
    exact ⟨fn,r0,r1,g,r5,r6,0,id,ops,o0,o1,o2,o3,o4,cy,hf,hb,ho,rfl,rfl,rfl,rfl,rfl,rfl,rfl,rfl,rfl,rfl,rfl,rfl⟩
   ·cases h
  ·cases h
 ·cases h
theorem o_pf {o:Oper} {f x y:Nat} {d:Option Nat} (h:callS o=some (f,[x,y],d)):∃c,o.op = .call c∧o.guard=none∧c.callee = .value (.tmp f)∧c.args.toList=[.tmp x,.tmp y]∧o.dst=d:=by
 unfold callS at h
 split at h
 ·rename_i c ho hg
  split at h
  ·rename_i hc ha
   cases h
   exact ⟨c,ho,hg,hc,ha,rfl⟩
  ·cases h
 ·cases h

structure AtS where
 a1:C
 a2:C
 a3:C
 a4:C
 g:X
 ps:List Nat
 asg:C
 bd:C
 a5:List O
 id:Nat
 calm:Bool
 rs:List RV
 nt:Nat
def atS (P:Program) (f:FuncId):Option AtS:=match P.funcs[f]? with
 | some fn=>match fn.body with
  | some (.seq a1 (.seq a2 (.seq a3 (.seq (.seq a4 (.block id (.rangeFunc g ps asg bd))) (.seq (.region _ ops false) .ret))))) =>
   some ⟨resolveC P a1,resolveC P a2,resolveC P a3,resolveC P a4,X.of g,ps.toList,resolveC P asg,resolveC P bd,ops.toList.map (resolveO P ops),id,Code.calm asg&&(Code.calm bd&&ops.toList.all notDefer),fn.results.toList.map (resolveR P),fn.ntmps⟩
  | _=>none
 | none=>none
theorem o_pg {P:Program} {f:FuncId} {s:AtS} (h:atS P f=some s):∃(fn:Func) (a1 a2 a3 a4 asg bd:Code) (g:Operand) (ps:Array Nat) (id:Nat) (ops:Array Oper),
  P.funcs[f]?=some fn∧fn.body=some (.seq a1 (.seq a2 (.seq a3 (.seq (.seq a4 (.block s.id (.rangeFunc g ps asg bd))) (.seq (.region id ops false) .ret))))) ∧
  resolveC P a1=s.a1∧resolveC P a2=s.a2∧resolveC P a3=s.a3∧resolveC P a4=s.a4∧X.of g=s.g∧ps.toList=s.ps∧resolveC P asg=s.asg∧resolveC P bd=s.bd∧ops.toList.map (resolveO P ops)=s.a5∧(Code.calm asg&&(Code.calm bd&&ops.toList.all notDefer))=s.calm∧fn.results.toList.map (resolveR P)=s.rs∧fn.ntmps=s.nt:=by
 unfold atS at h
 split at h
 ·rename_i fn hf
  split at h
  ·rename_i a1 a2 a3 a4 id g ps asg bd id' ops hb
   cases h
   exact ⟨fn,a1,a2,a3,a4,asg,bd,g,ps,id',ops,hf,hb,rfl,rfl,rfl,rfl,rfl,rfl,rfl,rfl,rfl,rfl,rfl,rfl⟩
  ·cases h
 ·cases h

def C.l:C→C
 | .seq a _=>a
 | c=>c
def C.r:C→C
 | .seq _ b=>b
 | c=>c
def C.b:C→C
 | .block _ a | .loop a=>a
 | c=>c
def C.os:C→List O
 | .reg _ l=>l
 | _=>[]
def cAsg:C:=.seq (.reg false [⟨some 7,.mv (.t 24),none,[]⟩]) (.reg false [⟨some 8,.new 212 [.int .i64 0,.int .i64 0,.nilsl,.nilsl],none,[]⟩,⟨none,.store 4 (.t 8) (.t 25),none,[0,0]⟩])
def cBd:C:=.block 2 (.seq (.reg false [⟨some 26,.load true 4 (.t 8),none,[]⟩,⟨none,.store 4 (.t 6) (.t 26),none,[0,0]⟩])
 (.seq (.reg false [⟨some 27,.mv (.t 7),none,[]⟩,⟨some 28,.load false 1 (.t 3),none,[]⟩,⟨some 29,.bin .eql (.t 27) (.t 28),none,[0,1]⟩]) (.cond (.t 29) (.exit 1) .skip)))
theorem at_s:atS Tryz.prog o_hw=some ⟨o_hx.l,o_hx.r.l,o_hx.r.r.l,o_hx.r.r.r.l.l,.t 23,[24,25],cAsg,cBd,o_hx.r.r.r.r.l.os,1,true,[.cell 4 true 4,.t 5],31⟩:=by kernel_rfl
abbrev cWb:C:=o_i0.r.r.b.b
theorem o_ph:walkS Tryz.prog o_hz=some ⟨o_i0.l,o_i0.r.l,cWb.l,(cWb.r.l.b.l.l.os).take 3,some (15,[16,17],some 18),((cWb.r.l.b.l.l.os).drop 4).headD ⟨none,.bad,none,[]⟩,.t 19,cWb.r.l.b.r,cWb.r.r,(0,1),true,0,23⟩:=by kernel_rfl

abbrev kO (K:Nat):Ob:=⟨3,[.d (.int .i64 K)]⟩
abbrev plO (c:List V):Ob:=⟨212,c⟩

def Tr (i:Nat) (p:List D):List V:=[.junk,.junk,.junk,.p 0 0,.junk,.junk,.p 2 0]++List.replicate 17 .junk++[.d (.int .i64 i),.d (.agg p)]++List.replicate 5 .junk

theorem o_pi (l n K i:Nat) (c:List V) (p:List D) (hp:p.length=4):AWr Tryz.prog (some l) n 3 cAsg (thenQ (fun T H=>T=((Tr i p).set 7 (.d (.int .i64 i))).set 8 (.p 3 0)∧H=[some (kO K),none,some (plO c),some (plO (p.map .d))]) noQ) (Tr i p) [some (kO K),none,some (plO c)]:=by
 obtain ⟨p1,p2,p3,p4,rfl⟩:∃a b c d,p=[a,b,c,d]:=by
  match p,hp with
  | [a,b,c,d],_=>exact ⟨a,b,c,d,rfl⟩
 simp only [cAsg,Tr]
 refine AWr.seq (AWr.reg ?_)
 simp
 refine AWr.reg ?_
 simp

theorem o_pj (l n K i:Nat) (c:List V) (hc:c.length=4) (p:List D) (hp:p.length=4):AWr Tryz.prog (some l) n 3 cBd (fun e T H=>H=[some (kO K),none,some (plO (p.map .d)),some (plO (p.map .d))]∧e=if i=K then .exit 1 else .normal) (((Tr i p).set 7 (.d (.int .i64 i))).set 8 (.p 3 0)) [some (kO K),none,some (plO c),some (plO (p.map .d))]:=by
 obtain ⟨p1,p2,p3,p4,rfl⟩:∃a b c d,p=[a,b,c,d]:=by
  match p,hp with
  | [a,b,c,d],_=>exact ⟨a,b,c,d,rfl⟩
 obtain ⟨c1,c2,c3,c4,rfl⟩:∃a b c' d,c=[a,b,c',d]:=by
  match c,hc with
  | [a,b,c,d],_=>exact ⟨a,b,c,d,rfl⟩
 simp only [cBd,Tr]
 refine AWr.block ?_
 refine AWr.seq (AWr.reg ?_)
 simp
 refine AWr.seq (AWr.reg ?_)
 by_cases h:i=K
 ·subst h
  simp
  refine AWr.cond rfl (fun h=>?_) (fun h=>?_)
  ·refine AWr.exit ?_
   simp
  ·simp at h
 ·have h':¬(i:Int)=K:=by omega
  simp [h,h']
  refine AWr.cond rfl (fun h=>?_) (fun h=>?_)
  ·simp at h
   omega
  ·refine AWr.skip ?_
   simp

theorem o_pk {m:Mem} {n:Nat} {o:Ob} (h:m.obj n o):∃b,m.ρ n=some b:=by
 obtain ⟨b,_,_,h1,_⟩:=h;exact ⟨b,h1⟩

def RoundR (K i:Nat) (p:List D) (m:Mem) (l:Nat) (rec:LoopState→Option Code→Loop) (e:Ending) (w':World):Prop :=
 ∃m':Mem,m'.w=w'∧m'.base∧m'.obj 0 (kO K)∧m'.obj 2 (plO (p.map .d)) ∧
  if i=K then e = .returned (.bool false)∧(m.at (m.w.putObj l (.loop (rec .done (some (.exit 1)))))).le m' (· < 3) else e = .returned (.bool true)∧m.le m' (· < 3)

theorem o_pl {asg bd:Code} (hasg:resolveC Tryz.prog asg=cAsg) (hbd:resolveC Tryz.prog bd=cBd) (ca:Code.calm asg=true) (cb:Code.calm bd=true) {fn df:Nat} {tmps:Array Value} {rec:LoopState→Option Code→Loop}
  (hrec:rec=fun st pe=>{ state:=st,pending:=pe,fn,tmps,params:=#[24,25],assign:=asg,body:=bd,defers:=df }) (n K i:Nat) (p:List D) (hp:p.length=4) {m:Mem} {l:Nat} {c:List V} (mb:m.base) (h0:m.obj 0 (kO K)) (h2:m.obj 2 (plO c)) (hc:c.length=4)
  (hinj:∀b,m.ρ 0=some b→m.ρ 2≠some b) (htop:∀n,n≠0→n≠2→m.ρ n=none) (t3:(V.p 0 0).rep m (tmps.getD 3 undef)) (t6:(V.p 2 0).rep m (tmps.getD 6 undef)) (hsz:tmps.size=31) (hlo:m.loose l) (hl:m.w.heap[l]?=some (.loop (rec .ready none))) {v:Value} (hv:(V.d (.agg p)).rep m v) :
  YieldAt Fence.wide n Tryz.prog l #[.int .i64 i,v] m.w (RoundR K i p m l rec):=by
 have hy:=run_yield (P:=Tryz.prog) (args:=#[.int .i64 i,v]) hl (by rw [hrec];rfl)
 refine ⟨_,_,_,_,hy,?_⟩
 have ht:((rec .ready none).params.zip #[.int .i64 i,v]).foldl (fun tmps (t,a)=>tmps.setIfInBounds t a) (rec .ready none).tmps=(tmps.setIfInBounds 24 (.int .i64 i)).setIfInBounds 25 v:=by
  rw [hrec];simp
 rw [ht,show (rec .ready none).assign=asg by rw [hrec],show (rec .ready none).body=bd by rw [hrec]]
 clear hy ht
 have sat:Sat m ⟨(tmps.setIfInBounds 24 (.int .i64 i)).setIfInBounds 25 v,[]⟩ (Tr i p) [some (kO K),none,some (plO c)]:=by
  refine ⟨mb,fun s=>?_,fun n ob h=>?_,fun n k b ln lk h1 h3=>?_,fun n h=>htop n (by simp at h;omega) (by simp at h;omega),by simp [Tr,hsz],rfl⟩
  ·have g:((tmps.setIfInBounds 24 (.int .i64 i)).setIfInBounds 25 v).getD s undef=if s=25 then v else if s=24 then .int .i64 i else tmps.getD s undef:=by
    rw [Array.getD_eq_getD_getElem?,Array.getElem?_setIfInBounds]
    by_cases e1:s=25
    ·subst e1;simp [hsz]
    ·rw [if_neg (by omega),if_neg e1,Array.getElem?_setIfInBounds]
     by_cases e2:s=24
     ·subst e2;simp [hsz]
     ·rw [if_neg (by omega),if_neg e2,Array.getD_eq_getD_getElem?]
   have g2:(Tr i p).getD s .junk=if s=25 then .d (.agg p) else if s=24 then .d (.int .i64 i) else if s=3 then .p 0 0 else if s=6 then .p 2 0 else .junk:=by
    rcases Nat.lt_or_ge s 31 with hs | hs
    ·have:∀s,s<31→(Tr i p).getD s .junk=if s=25 then .d (.agg p) else if s=24 then .d (.int .i64 i) else if s=3 then .p 0 0 else if s=6 then .p 2 0 else .junk:=by
      intro s hs
      iterate 31 (rcases s with _ | s;· rfl)
      omega
     exact this s hs
    ·rw [if_neg (by omega),if_neg (by omega),if_neg (by omega),if_neg (by omega),List.getD_eq_getElem?_getD,List.getElem?_eq_none (by simp [Tr];omega)];rfl
   rw [g,g2]
   split
   ·exact hv
   ·split
    ·exact V.rep_int.2 rfl
    ·split
     ·rename_i e;subst e;exact t3
     ·split
      ·rename_i e;subst e;exact t6
      ·unfold V.rep;trivial
  ·rcases n with _ | _ | _ | n
   ·simp at h;subst h;exact h0
   ·simp at h
   ·simp at h;subst h;exact h2
   ·simp at h
  ·have l2:∀n,live [some (kO K),none,some (plO c)] n→n=0∨n=2:=fun n h=>by
    rcases n with _ | _ | _ | n
    ·exact .inl rfl
    ·simp [live] at h
    ·exact .inr rfl
    ·simp [live] at h
   rcases l2 n ln with rfl | rfl<;>rcases l2 k lk with rfl | rfl
   ·rfl
   ·exact (hinj b h1 h3).elim
   ·exact (hinj b h3 h1).elim
   ·rfl
 have htop3:∀n,3≤n→m.ρ n=none:=fun n h=>htop n (by omega) (by omega)
 refine roundIn_of_wpIn trivial (wpIn_mono (o_pi l n K i c p hp asg hasg ca m m _ sat (Mem.le.refl _ _) htop3 (by simp)) ?_)
 rintro e a1 w1 ⟨T1,H1,m1,rfl,hq,sat1,hle1,_⟩
 cases e with
 | normal =>
  obtain ⟨rfl,rfl⟩:=hq
  obtain ⟨lo1,hl1⟩:=hlo.keep hle1
  have hl1':=hl1.trans hl
  refine ⟨_,run_beginRound hl1' (by rw [hrec]),?_⟩
  have nc:∀(r:Loop) c t f,Obj.loop r≠.cells c t f:=by intro r c t f h;cases h
  have hle2:=hlo.le hle1 (o:=.loop { rec .ready none with state:=.busy }) (o':=.loop { rec .ready none with state:=.busy }) hl (nc _) (nc _) (nc _) rfl
  have sat2:=lo1.sat (.loop { rec .ready none with state:=.busy }) sat1
  refine wpIn_mono (o_pj l n K i c hc p hp bd hbd cb (m.at (m.w.putObj l (.loop { rec .ready none with state:=.busy }))) _ a1 sat2 hle2 htop3 (by simp)) ?_
  rintro e a3 w3 ⟨T3,H3,m3,rfl,⟨rfl,rfl⟩,sat3,hle3,_⟩
  obtain ⟨lo3,hl3⟩:=(hlo.put (.loop { rec .ready none with state:=.busy })).keep hle3
  rw [World.putObj_heap_same hlo.lt] at hl3
  have hend:=fun jump=>run_endRound (P:=Tryz.prog) jump hl3
  have hle4:=fun o (ho:∀c t f,o≠Obj.cells c t f)=>(hlo.put (.loop { rec .ready none with state:=.busy })).le hle3 (o:=o) (o':=o) (World.putObj_heap_same hlo.lt) (nc _) ho ho rfl
  have sat4:=fun o=>lo3.sat o sat3
  by_cases hik:i=K
  ·simp only [if_pos hik]
   refine ⟨_,_,hend (some (.exit 1)),⟨_,rfl,(sat4 _).base,(sat4 _).obj 0 _ rfl,(sat4 _).obj 2 _ rfl,?_⟩⟩
   rw [if_pos hik]
   refine ⟨rfl,?_⟩
   have:=hle4 (.loop { rec .ready none with state:=.done,pending:=some (.exit 1) }) (nc _)
   simp only [o_6f] at this
   rw [hrec] at this ⊢
   exact this
  ·simp only [if_neg hik]
   refine ⟨_,_,hend none,⟨_,rfl,(sat4 _).base,(sat4 _).obj 0 _ rfl,(sat4 _).obj 2 _ rfl,?_⟩⟩
   rw [if_neg hik]
   refine ⟨rfl,?_⟩
   have:=hle4 (.loop (rec .ready none)) (nc _)
   simp only [o_6f,o_6g hl] at this
   rw [hrec] at this ⊢
   exact this
 | _=>exact hq.elim
end
section
open Go.RowKit
theorem Sat.put {m:Mem} {a:Act} {T:List V} {H:List (Option Ob)} (sat:Sat m a T H) (s:Nat) {x:V} {v:Value} (hv:x.rep m v):Sat m (a.put (some s) v) (T.set s x) H:=by
 refine ⟨sat.base,fun i=>?_,sat.obj,sat.inj,sat.top,by rw [o_48];simpa using sat.size,by rw [o_49];exact sat.defers⟩
 have h1:T.set s x=putT T (some s) x:=rfl
 rw [h1,o_4a,o_47,sat.size]
 split
 ·exact hv
 ·exact sat.slots i

abbrev sO (s:Nat):Ob:=⟨3,[.d (.int .i64 s)]⟩
def plC (p:Pl):List D:=[.int .i64 p.x,.int .i64 p.shift,natW p.value,natW p.reply]
abbrev fnY (l:Nat):V:=.fn (.yield l) []
def Tw0 (l:Nat):List V:=[fnY l,.p 3 0,.junk,.p 5 0]++List.replicate 19 .junk
def Tw (l i:Nat):List V:=[fnY l,.p 3 0,.junk,.p 5 0,.d (.int .i64 i)]++List.replicate 18 .junk
def Hw (K s i:Nat) (c:List V):List (Option Ob):=[some (kO K),none,some (plO c),some (sO s),none,some (plO ((plC (placeY s i)).map .d))]

theorem o_pm {s k:Nat} (h1:1≤s) (h5:s≤5) (hk:k≤1024):(placeY s k).x≤100000∧(placeY s k).shift≤8192∧size (placeY s k).value≤900∧size (placeY s k).reply≤900:=by
 obtain ⟨a1,a2,a3,a4,a5⟩:=o_ks h1 k
 refine ⟨by omega,by omega,?_,?_⟩
 ·refine Nat.le_trans (o_p7 (n:=11+(2*s+k)) (m:=20) (Nat.lt_of_le_of_lt a4 ?_) (by omega)) (by omega)
  have hp:=Nat.two_pow_pos (2*s+k)
  rw [Nat.pow_add 2 11]
  generalize 2^(2*s+k)=z at *
  have h1:k*z≤1024*z:=Nat.mul_le_mul_right _ hk
  have h2:(2:Nat)^11*z=2048*z:=rfl
  rw [h2]
  omega
 ·exact Nat.le_trans (o_p7 (n:=2*s+k+1) (m:=20) (Nat.lt_of_le_of_lt a2 (Nat.pow_lt_pow_right (by omega) (Nat.lt_succ_self _))) (by omega)) (by omega)

theorem w_r0 (l K s:Nat) (h1:1≤s) (h5:s≤5) (c:List V) (hc:V.lowl 6 c=true):AW Tryz.prog 4 o_i0.l (thenQ (fun T H=>wk 6 T (Tw0 l)∧wkH 6 H (Hw K s 0 c)) noQ) ([fnY l,.p 3 0]++List.replicate 21 .junk) [some (kO K),none,some (plO c),some (sO s)]:=by
 simp only [o_i0,C.l,Tw0,Hw]
 have e1:IntKind.i64.wrap (2*(s:Int))=2*(s:Int):=w64 (by omega) (by omega)
 have e2:((2:Int)*s).toNat=2*s:=by omega
 have e3:(2:Int)^(2*s)=(2^(2*s):Nat):=by rw [Int.natCast_pow];rfl
 have hlt:2^(2*s)≤2^10:=Nat.pow_le_pow_right (by omega) (by omega)
 have hp0:placeY s 0=⟨0,0,0,2^(2*s)⟩:=rfl
 rw [hp0]
 generalize 2^(2*s)=q at *
 have e4:IntKind.u64.wrap (q:Int)=q:=wu64 (by omega) (by omega)
 have e5:(2:Int)*s≤64:=by omega
 refine G1 (fs e1 (fs e2 (fs e3 (fs e4 e5)))) ?_;try with_reducible exact tt
 refine CallS.pf 4 1 ⟨105,_⟩ [.int .u64 q] (o_jl [q] (o_kh (by omega)) (by simp)) (by first | rfl | (simp;done)) (R0 ?_);try with_reducible exact tt
 exact ⟨Subs.cons (Sub1.refl _) (Subs.cons (Sub1.refl _) (Subs.cons Sub1.nil (Subs.of (by simp [wval])))),rfl⟩

theorem w_r1 (l K s:Nat) (c:List V) (hc:V.lowl 6 c=true):AW Tryz.prog 4 o_i0.r.l (thenQ (fun T H=>wk 6 T (Tw l 0)∧wkH 6 H (Hw K s 0 c)) noQ) (Tw0 l) (Hw K s 0 c):=by
 simp only [o_i0,C.l,C.r,Tw0,Tw,Hw]
 have hp:V.lowl 6 ((plC (placeY s 0)).map V.d)=true:=rfl
 refine G1 (fs hc hp) ?_;try with_reducible exact tt

theorem w_g (l K s i:Nat) (hi:i≤1023) (c:List V) (hc:V.lowl 6 c=true):AW Tryz.prog 4 cWb.l (thenQ (fun T H=>wk 6 T (Tw l i)∧wkH 6 H (Hw K s i c)) noQ) (Tw l i) (Hw K s i c):=by
 simp only [o_i0,C.l,C.r,C.b,Tw,Hw]
 have hp:V.lowl 6 ((plC (placeY s i)).map V.d)=true:=rfl
 have h1:(i:Int)≤1023:=by omega
 refine G1 (fs hc (fs hp h1)) ?_;try with_reducible exact tt
 refine AW.cond rfl (fun h=>?_) (fun h=>?_)
 ·refine G1 (fs hc hp) ?_;try with_reducible exact tt
 ·simp [h1] at h

theorem w_r5 (l K s i:Nat) (h1:1≤s) (h5:s≤5) (hi:i≤1023) (c:List V) (hc:V.lowl 6 c=true):AW Tryz.prog 4 cWb.r.l.b.r (thenQ (fun T H=>wk 6 T (Tw l i)∧wkH 6 H (Hw K s (i+1) c)) noQ) (Tw l i) (Hw K s i c):=by
 simp only [o_i0,C.l,C.r,C.b,Tw,Hw]
 obtain ⟨b1,b2,b3,b4⟩:=o_pm h1 h5 (k:=i) (by omega)
 have hn:=o_pc s (placeY s i) h5 b1 b2 b3 b4
 rw [show nextY s (placeY s i)=placeY s (i+1) from rfl] at hn
 generalize placeY s i=p at *
 generalize placeY s (i+1)=p' at *
 simp only [plC,List.map_cons,List.map_nil,plD] at hn ⊢
 refine G1 hc ?_;try with_reducible exact tt
 refine CallS.pu (hn) (R1 hc ?_);try with_reducible exact tt

theorem w_r6 (l K s i:Nat) (hi:i≤1023) (c:List V) (hc:V.lowl 6 c=true):AW Tryz.prog 4 cWb.r.r (thenQ (fun T H=>wk 6 T (Tw l (i+1))∧wkH 6 H (Hw K s (i+1) c)) noQ) (Tw l i) (Hw K s (i+1) c):=by
 simp only [o_i0,C.l,C.r,C.b,Tw,Hw]
 have hp:V.lowl 6 ((plC (placeY s (i+1))).map V.d)=true:=rfl
 generalize (plC (placeY s (i+1))).map V.d=pc at *
 have ew:IntKind.i64.wrap ((i:Int)+1)=(i:Int)+1:=w64 (by omega) (by omega)
 refine G1 (fs hc (fs hp ew)) ?_;try with_reducible exact tt

theorem w_os (l K s i:Nat) (c:List V) (ops:Array Oper) {K':List V→List (Option Ob)→Prop} (h:K' ((((Tw l i).set 15 (fnY l)).set 16 (.d (.int .i64 i))).set 17 (.d (.agg (plC (placeY s i))))) (Hw K s i c)) :
  vops Tryz.prog false K' ((cWb.r.l.b.l.l.os).take 3) [] (Tw l i) (Hw K s i c):=by
 simp only [cWb,o_i0,C.l,C.r,C.b,C.os,Tw,Hw] at h ⊢
 generalize placeY s i=p at *
 simp only [plC,List.map_cons,List.map_nil] at h ⊢
 simp
 simpa using h
theorem w_o4 (l K s i:Nat) (p:D) (b:Bool) (H:List (Option Ob)) {K':List V→List (Option Ob)→Prop} (h:K' (((((Tw l i).set 15 (fnY l)).set 16 (.d (.int .i64 i))).set 17 (.d p)).set 18 (.d (.bool b)) |>.set 19 (.d (.bool !b))) H) :
  vops Tryz.prog false K' [((cWb.r.l.b.l.l.os).drop 4).headD ⟨none,.bad,none,[]⟩] [] (((((Tw l i).set 15 (fnY l)).set 16 (.d (.int .i64 i))).set 17 (.d p)).set 18 (.d (.bool b))) H:=by
 simp only [cWb,o_i0,C.l,C.r,C.b,C.os,Tw] at h ⊢
 simp
 simpa using h
end
section
open Go.RowKit
theorem o_pn (n:Nat) (p:Pl):V.lowl n ((plC p).map V.d)=true:=rfl
theorem o_po {m:Mem} {a:Act} {T:List V} {H:List (Option Ob)} (sat:Sat m a T H) {s:Nat} {x:V} (h:T.getD s .junk=x):x.rep m (a.tmps.getD s undef):=h▸sat.slots s
theorem nloop (r:Loop):∀c t f,Obj.loop r≠.cells c t f:=by intro c t f h;cases h

theorem o_pp {m m':Mem} (hI:m'.I=m.I) (hw:m'.w=m.w) {ds:List D} {vs:List Value} (h:V.reps m (ds.map V.d) vs):V.reps m' (ds.map V.d) vs:=by
 rw [V.reps_map_d] at h ⊢
 rw [hI,hw];exact h
theorem o_pq {m:Mem} {a:Act} {T:List V} {H:List (Option Ob)} (sat:Sat m a T H) {c:Operand} {s:Nat} (hc:X.of c = .t s) {b:Bool} (h:T.getD s .junk = .d (.bool b)):a.eval c = .bool b :=
 V.rep_bool.1 (X.rep' (T:=T) (fun s _=>sat.slots s) (by rw [hc];exact h))
def zD:List D:=[.int .i64 0,.int .i64 0,.nilsl,.nilsl]
def SS:Nat→Bool:=fun n=>n==0 || n==2

set_option maxHeartbeats 4000000 in
theorem o_pr {asg bd:Code} (hasg:resolveC Tryz.prog asg=cAsg) (hbd:resolveC Tryz.prog bd=cBd) (ca:Code.calm asg=true) (cb:Code.calm bd=true) {fn df:Nat} {tmps:Array Value} {rec:LoopState→Option Code→Loop}
  (hrec:rec=fun st pe=>{ state:=st,pending:=pe,fn,tmps,params:=#[24,25],assign:=asg,body:=bd,defers:=df }) (s K:Nat) (s1:1≤s) (s5:s≤5) (hK:K≤1023) {m:Mem} {l:Nat} {sv:Value}
  (sat:∀a:Act,a.tmps = #[.func (.yield l) #[] #[],sv]++Array.replicate 21 undef→a.defers=[]→Sat m a ([fnY l,.p 3 0]++List.replicate 21 .junk) [some (kO K),none,some (plO (zD.map V.d)),some (sO s)])
  (t3:(V.p 0 0).rep m (tmps.getD 3 undef)) (t6:(V.p 2 0).rep m (tmps.getD 6 undef)) (hsz:tmps.size=31) (hlo:m.loose l) (hl:m.w.heap[l]?=some (.loop (rec .ready none))) :
  Calls Tryz.prog o_hz #[.func (.yield l) #[] #[],sv] m.w fun e w'=>(∃v,e = .returned v)∧∃m':Mem,m'.w=w'∧m'.base∧m'.obj 2 (plO ((plC (placeY s K)).map .d))∧(m.at (m.w.putObj l (.loop (rec .done (some (.exit 1)))))).le m' (· < 4):=by
 obtain ⟨f67,r0,r1,g,r5,r6,-,id,ops,o0,o1,o2,o3,o4,cy,hf,hb,hops,e0,e1,eg,eos,ecall,eo4,ecy,er5,er6,ecalm,eres,ent⟩:=o_pe o_ph
 simp only at hb e0 e1 eg eos ecall eo4 ecy er5 er6 ecalm eres ent
 obtain ⟨cc,ho3,hg3,hc3,ha3,hd3⟩:=o_pf ecall
 rw [Bool.and_eq_true] at ecalm
 refine calls_of_wp hf hb ((wpIn_wide (n:=0)).1 ?_)
 have sat0:=sat { tmps:=#[.func (.yield l) #[] #[],sv]++Array.replicate (f67.ntmps - #[Value.func (.yield l) #[] #[],sv].size) undef,defers:=[] } (by rw [ent];rfl) rfl
 have htop:∀n,4≤n→m.ρ n=none:=sat0.top
 refine AW.then (L:=4) e0 (w_r0 l K s s1 s5 (zD.map V.d) rfl) sat0 (Mem.le.refl _ _) htop (by simp) fun T1 H1 m1 a1 hq st1 le1 L1=>?_
 obtain ⟨m1',hw1,st1',le1',L1'⟩:=Sat.weaken (T1:=Tw0 l) (H1:=Hw K s 0 (zD.map V.d)) (Weak.of hq.1 hq.2) st1 le1 htop (by simp [Hw])
 rw [←hw1]
 refine AW.then (L:=4) e1 (w_r1 l K s (zD.map V.d) rfl) st1' le1' htop (by simp [Hw]) fun T2 H2 m2 a2 hq st2 le2 L2=>?_
 obtain ⟨m2',hw2,st2',le2',L2'⟩:=Sat.weaken (T1:=Tw l 0) (H1:=Hw K s 0 (zD.map V.d)) (Weak.of hq.1 hq.2) st2 le2 htop (by simp [Hw])
 rw [←hw2]
 clear hw1 hw2 st1 st2 sat0 sat le1 le2 L1 L2 st1' le1' L1' hq
 refine wpIn_block (wpIn_wide.2 (o_58 (fun k a w=>∃(i:Nat) (c:List D) (m':Mem),m'.w=w∧k=1024-i∧i≤K∧c.length=4∧Sat m' a (Tw l i) (Hw K s i (c.map V.d))∧m.le m' (· < 4)) ?_ 1024 a2 m2'.w ⟨0,_,m2',rfl,rfl,Nat.zero_le _,rfl,st2',le2'⟩))
 clear st2' le2' L2' hq m2 m2' a2 T2 H2 m1 m1' a1 T1 H1
 rintro k a w ⟨i,c,mw,rfl,rfl,hi,hc,st,le⟩
 have hlc:V.lowl 6 (c.map V.d)=true:=V.lowl_mono (by omega) _ (o_5m c).1
 refine (wpIn_wide (n:=0)).1 ?_
 refine AW.then (L:=4) eg (w_g l K s i (by omega) (c.map V.d) hlc) st le htop (by simp [Hw]) fun T1 H1 m1 a1 hq st1 le1 L1=>?_
 obtain ⟨m1',hw1,st1',le1',L1'⟩:=Sat.weaken (T1:=Tw l i) (H1:=Hw K s i (c.map V.d)) (Weak.of hq.1 hq.2) st1 le1 htop (by simp [Hw])
 rw [←hw1]
 clear hw1 st1 le1 L1 hq st le m1 T1 H1 a mw
 refine wpIn_seq (wpIn_block (wpIn_seq (wpIn_seq (o_6i ?_))))
 rw [hops,show [o0,o1,o2,o3,o4]=[o0,o1,o2]++[o3,o4] from rfl]
 refine o_69 (l:=none) (L:=4) (K:=fun T H=>T=((((Tw l i).set 15 (fnY l)).set 16 (.d (.int .i64 i))).set 17 (.d (.agg (plC (placeY s i)))))∧H=Hw K s i (c.map V.d)) [o3,o4] ecalm.1 (by rw [eos];exact w_os l K s i (c.map V.d) ops ⟨rfl,rfl⟩) st1' le1' htop (by simp [Hw]) fun T2 H2 a2 m2 hq st2 le2 L2=>?_
 obtain ⟨rfl,rfl⟩:=hq
 clear st1' le1' L1' m1' a1
 -- the call of yield
 have g15:a2.eval (.tmp 15) = .func (.yield l) #[] #[]:=by
  have:=o_po st2 (s:=15) (x:=fnY l) (by simp [Tw])
  unfold V.rep at this
  obtain ⟨vs,h1,h2⟩:=this
  simp at h2
  subst h2
  exact h1
 have g16:a2.eval (.tmp 16) = .int .i64 i:=V.rep_int.1 (o_po st2 (s:=16) (by simp [Tw]))
 have g17:(V.d (.agg (plC (placeY s i)))).rep m2 (a2.eval (.tmp 17)):=o_po st2 (s:=17) (by simp [Tw])
 obtain ⟨lo2,hl2⟩:=hlo.keep le2
 have hl2':=hl2.trans hl
 have hcut:∀n,n=0∨n=2→(m2.cut SS).ρ n=m2.ρ n:=fun n h=>by rcases h with rfl | rfl<;>simp [SS]
 have hobj:∀(n:Nat) (ty:TypeId) (ds:List D),n=0∨n=2→m2.obj n ⟨ty,ds.map V.d⟩→(m2.cut SS).obj n ⟨ty,ds.map V.d⟩:=by
  rintro n ty ds hn ⟨b,vs,more,h1,h2,h3,h4,h5⟩
  exact ⟨b,vs,more,by rw [hcut n hn];exact h1,h2,h3,o_pp (m:=m2) (m':=m2.cut SS) rfl rfl (show V.reps m2 (ds.map V.d) vs from h4),h5⟩
 have hun:∀(n:Nat) (ty:TypeId) (ds:List D) (mr:Mem),n=0∨n=2→(∀b,m2.ρ n=some b→mr.ρ n=some b)→mr.obj n ⟨ty,ds.map V.d⟩→(⟨m2.ρ,mr.I,mr.w⟩:Mem).obj n ⟨ty,ds.map V.d⟩:=by
  rintro n ty ds mr hn hρ ⟨b,vs,more,h1,h2,h3,h4,h5⟩
  obtain ⟨b',hb'⟩:∃b',m2.ρ n=some b':=by
   rcases hn with rfl | rfl
   ·exact o_pk (st2.obj 0 _ rfl)
   ·exact o_pk (st2.obj 2 _ rfl)
  have:=hρ b' hb'
  rw [h1] at this
  cases this
  exact ⟨b,vs,more,hb',h2,h3,o_pp (m:=mr) (m':=⟨m2.ρ,mr.I,mr.w⟩) rfl rfl (show V.reps mr (ds.map V.d) vs from h4),h5⟩
 have r3:(V.p 0 0).rep (m2.cut SS) (tmps.getD 3 undef):=by
  unfold V.rep at t3 ⊢
  obtain ⟨b,h1,h2⟩:=t3
  exact ⟨b,by rw [hcut 0 (.inl rfl)];exact le2.ρ 0 b h1,h2⟩
 have r6':(V.p 2 0).rep (m2.cut SS) (tmps.getD 6 undef):=by
  unfold V.rep at t6 ⊢
  obtain ⟨b,h1,h2⟩:=t6
  exact ⟨b,by rw [hcut 2 (.inr rfl)];exact le2.ρ 2 b h1,h2⟩
 have rv:(V.d (.agg (plC (placeY s i)))).rep (m2.cut SS) (a2.eval (.tmp 17)):=V.rep_d.2 (V.rep_d.1 g17)
 have loc:(m2.cut SS).loose l:=by
  refine ⟨lo2.lt,fun n h=>?_,lo2.I⟩
  simp only at h
  split at h
  ·exact lo2.ρ n h
  ·cases h
 have hround:=o_pl hasg hbd ca cb hrec (0-1) K i (plC (placeY s i)) rfl (m:=m2.cut SS) (l:=l) (c:=c.map V.d) (Mem.cut_base st2.base SS) (hobj 0 _ [.int .i64 K] (.inl rfl) (st2.obj 0 _ rfl)) (hobj 2 _ c (.inr rfl) (st2.obj 2 _ rfl)) (by simpa using hc)
  (fun b h0 h2=>by
   rw [hcut 0 (.inl rfl)] at h0;rw [hcut 2 (.inr rfl)] at h2
   have:=st2.inj 0 2 b rfl rfl h0 h2
   omega)
  (fun n h0 h2=>by simp [SS,h0,h2]) r3 r6' hsz loc hl2' rv
 obtain ⟨fn',tmps',asg',bd',hy,hR⟩:=hround
 rw [←g16] at hy
 refine wpListIn_plain hg3 (fun Kk hKk=>⟨fun _ _=>trivial,?_⟩)
 rw [show (FR none).round=none from rfl,Oper.semAt_none,o_6e ho3 hc3 ha3 g15,hy,Oper.uponIn_round]
 refine ⟨fun h=>by simp [FR,Fence.wide] at h,hR.mono ?_⟩
 rintro e w' ⟨mr,rfl,mrb,mr0,mr2,hcase⟩
 -- both ways: a memory that fits
 have key:∀(o:Obj),(∀c t f,o≠.cells c t f)→((m2.cut SS).at (m2.w.putObj l o)).le mr (· < 3)→∀b:Bool,
   Sat ⟨m2.ρ,mr.I,mr.w⟩ (a2.put (some 18) (.bool b)) (((((Tw l i).set 15 (fnY l)).set 16 (.d (.int .i64 i))).set 17 (.d (.agg (plC (placeY s i))))).set 18 (.d (.bool b))) (Hw K s i ((plC (placeY s i)).map V.d))∧(m2.at (m2.w.putObj l o)).le ⟨m2.ρ,mr.I,mr.w⟩ (fun n=>SS n=true):=by
  intro o ho hle b
  have hu:=Mem.uncut (m:=m2.at (m2.w.putObj l o)) (S:=SS) hle (fun n h=>by simp [SS] at h;omega)
  have hρ:∀n b,m2.ρ n=some b→n=0∨n=2→mr.ρ n=some b:=fun n b h hn=>hle.ρ n b (by show (if SS n=true then m2.ρ n else none)=some b;rw [if_pos (by rcases hn with rfl | rfl<;>rfl)];exact h)
  refine ⟨Sat.put (Sat.uncut (H':=Hw K s i ((plC (placeY s i)).map V.d)) (lo2.sat o st2) mrb hu (fun n h=>?_) rfl fun n ob h=>?_) 18 (V.rep_bool.2 rfl),hu⟩
  ·simp [SS] at h
   rcases h with rfl | rfl<;>rfl
  ·rcases n with _ | _ | _ | _ | _ | _ | n
   ·left;simp [Hw] at h;subst h
    exact ⟨rfl,hun 0 _ [.int .i64 K] mr (.inl rfl) (fun b h=>hρ 0 b h (.inl rfl)) mr0⟩
   ·simp [Hw] at h
   ·left;simp [Hw] at h;subst h
    exact ⟨rfl,hun 2 _ (plC (placeY s i)) mr (.inr rfl) (fun b h=>hρ 2 b h (.inr rfl)) mr2⟩
   ·right;simp [Hw] at h;subst h;exact ⟨rfl,rfl⟩
   ·simp [Hw] at h
   ·right;simp [Hw] at h;subst h;exact ⟨rfl,by simp [Hw]⟩
   ·simp [Hw] at h
 have hres:∀(a:Act) (w:World),(results f67 a.tmps).run Tryz.prog w = .ok (.tuple #[]) w:=fun a w=>by
  have:f67.results = #[]:=Array.eq_empty_of_size_eq_zero eres
  simp [results,this]
 have hmap:[o4].map (resolveO Tryz.prog ops)=[((cWb.r.l.b.l.l.os).drop 4).headD ⟨none,.bad,none,[]⟩]:=by rw [←eo4];rfl
 by_cases hik:i=K
 ·rw [if_pos hik] at hcase
  obtain ⟨rfl,hle⟩:=hcase
  obtain ⟨sat5,le5⟩:=key _ (nloop _) hle false
  refine hKk _ _ ?_
  rw [hd3]
  have lem:=(hlo.le le2 (o:=.loop (rec .done (some (.exit 1)))) (o':=.loop (rec .done (some (.exit 1)))) hl (nloop _) (nloop _) (nloop _) rfl).trans le5 (fun n b _ h=>by simp [SS] at h;omega)
  refine o_69 (l:=none) (L:=4) (m0:=m.at (m.w.putObj l (.loop (rec .done (some (.exit 1)))))) (m:=⟨m2.ρ,mr.I,mr.w⟩) (K:=fun T H=>T=(((((Tw l i).set 15 (fnY l)).set 16 (.d (.int .i64 i))).set 17 (.d (.agg (plC (placeY s i))))).set 18 (.d (.bool false))).set 19 (.d (.bool true))∧H=Hw K s i ((plC (placeY s i)).map V.d)) [] ecalm.2 (by rw [hmap];exact w_o4 l K s i _ false _ ⟨rfl,rfl⟩) sat5 lem htop (by simp [Hw]) fun T6 H6 a6 m6 hq st6 le6 _=>?_
  obtain ⟨rfl,rfl⟩:=hq
  refine wpListIn_nil ?_
  refine wpIn_cond_split (o_pq st6 ecy (b:=true) (by simp [Tw])) (fun _=>wpIn_ret ?_) (fun h=>by cases h)
  refine ⟨st6.defers,_,hres _ _,⟨_,rfl⟩,m6,rfl,st6.base,?_,le6⟩
  rw [←hik]
  exact st6.obj 2 _ rfl
 ·rw [if_neg hik] at hcase
  obtain ⟨rfl,hle⟩:=hcase
  obtain ⟨sat5,le5⟩:=key (.loop (rec .ready none)) (nloop _) (by rw [o_6g hl2'];exact hle) true
  rw [o_6g hl2'] at le5
  refine hKk _ _ ?_
  rw [hd3]
  refine o_69 (l:=none) (L:=4) (m0:=m) (m:=⟨m2.ρ,mr.I,mr.w⟩) (K:=fun T H=>T=(((((Tw l i).set 15 (fnY l)).set 16 (.d (.int .i64 i))).set 17 (.d (.agg (plC (placeY s i))))).set 18 (.d (.bool true))).set 19 (.d (.bool false))∧H=Hw K s i ((plC (placeY s i)).map V.d)) [] ecalm.2 (by rw [hmap];exact w_o4 l K s i _ true _ ⟨rfl,rfl⟩) sat5 (le2.trans le5 (fun n b _ h=>by simp [SS] at h;omega)) htop (by simp [Hw]) fun T6 H6 a6 m6 hq st6 le6 _=>?_
  obtain ⟨rfl,rfl⟩:=hq
  refine wpListIn_nil ?_
  refine wpIn_cond_split (o_pq st6 ecy (b:=false) (by simp [Tw])) (fun h=>by cases h) (fun _=>wpIn_skip ?_)
  have hlp:=o_pn 6 (placeY s i)
  obtain ⟨m7,hw7,st7,le7,_⟩:=Sat.weaken (T1:=Tw l i) (H1:=Hw K s i ((plC (placeY s i)).map V.d)) (Weak.of (by simp [Tw,Hw,V.low,V.lowl]) (by simp [Hw,hlp,V.lowl,V.low])) st6 le6 htop (by simp [Hw])
  rw [←hw7]
  refine wpIn_mono (wpIn_wide.2 (w_r5 l K s i s1 s5 (by omega) _ hlp r5 er5 m m7 a6 st7 le7 htop (by simp [Hw]))) ?_
  rintro e a8 w8 ⟨T8,H8,m8,rfl,hq,st8,le8,_⟩
  cases e with
  | normal =>
   obtain ⟨m9,hw9,st9,le9,_⟩:=Sat.weaken (T1:=Tw l i) (H1:=Hw K s (i+1) ((plC (placeY s i)).map V.d)) (Weak.of hq.1 hq.2) st8 le8 htop (by simp [Hw])
   rw [←hw9]
   refine wpIn_mono (wpIn_wide.2 (w_r6 l K s i (by omega) _ hlp r6 er6 m m9 a8 st9 le9 htop (by simp [Hw]))) ?_
   rintro e a10 w10 ⟨T10,H10,m10,rfl,hq,st10,le10,_⟩
   cases e with
   | normal =>
    obtain ⟨m11,hw11,st11,le11,_⟩:=Sat.weaken (T1:=Tw l (i+1)) (H1:=Hw K s (i+1) ((plC (placeY s i)).map V.d)) (Weak.of hq.1 hq.2) st10 le10 htop (by simp [Hw])
    exact ⟨1024-(i+1),by omega,i+1,plC (placeY s i),m11,hw11,rfl,by omega,rfl,st11,le11⟩
   | _=>exact hq.elim
  | _=>exact hq.elim
end
section
open Go.RowKit
def Ta (s k:Nat) (x23:V):List V:=[.d (.int .i64 s),.d (.int .i64 k),.junk,.p 0 0,.p 1 0,.d (.int .i64 0),.p 2 0]++List.replicate 16 .junk++[x23]++List.replicate 7 .junk
def Ta0 (s k:Nat):List V:=[.d (.int .i64 s),.d (.int .i64 k),.junk,.p 0 0,.p 1 0,.d (.int .i64 0)]++List.replicate 25 .junk
abbrev zO:Ob:=plO (zD.map V.d)

theorem a_1 (s k:Nat):AW Tryz.prog 0 o_hx.l (thenQ (fun T H=>wk 2 T (Ta0 s k)∧wkH 2 H [some (kO k),some zO]) noQ) ([.d (.int .i64 s),.d (.int .i64 k)]++List.replicate 29 .junk) []:=by
 simp only [o_hx,C.l,Ta0]
 refine G0 ?_;try with_reducible exact tt
 exact ⟨Subs.refl _,rfl⟩
theorem a_2 (s k:Nat) (s1:1≤s) (s5:s≤5) (hk:k≤1023):AW Tryz.prog 0 o_hx.r.l (thenQ (fun T H=>wk 2 T (Ta0 s k)∧wkH 2 H [some (kO k),some zO]) noQ) (Ta0 s k) [some (kO k),some zO]:=by
 simp only [o_hx,C.l,C.r,Ta0,zD]
 refine G0 ?_;try with_reducible exact tt
 refine CallS.pu (o_p4 s) (R0 ?_);try with_reducible exact tt
 have h1:(1:Int)≤s∧(s:Int)≤5:=by omega
 refine AW.cond rfl (fun h=>?_) (fun h=>?_)
 ·simp [h1] at h
 have h2:¬(1023:Int)<k:=by omega
 refine G1 h2 ?_;try with_reducible exact tt
 refine AW.cond rfl (fun h=>?_) (fun h=>?_)
 ·simp at h
 refine G0 ?_;try with_reducible exact tt
 rfl
theorem a_3 (s k:Nat):AW Tryz.prog 0 o_hx.r.r.l (thenQ (fun T H=>wk 3 T (Ta s k .junk)∧wkH 3 H [some (kO k),some zO,some zO]) noQ) (Ta0 s k) [some (kO k),some zO]:=by
 simp only [o_hx,C.l,C.r,Ta0,Ta]
 refine G0 ?_;try with_reducible exact tt
 exact ⟨Subs.refl _,rfl⟩
theorem a_4 (s k:Nat):AW Tryz.prog 0 o_hx.r.r.r.l.l (thenQ (fun T H=>wk 4 T (Ta s k (.fn (.func o_hz) [.p 3 0]))∧wkH 4 H [some (kO k),some zO,some zO,some (sO s)]) noQ) (Ta s k .junk) [some (kO k),some zO,some zO]:=by
 simp only [o_hx,C.l,C.r,Ta]
 refine G0 ?_;try with_reducible exact tt
 refine CallS.newX (o_pd s) ⟨rfl,fun _=>rfl⟩ rfl (fun _=>rfl) (Subs.refl _) ?_
 simp [nameOf,V.ren,V.rens]
 rfl
theorem a_5 (s k:Nat) (x:V) (p:Pl) {K':List V→List (Option Ob)→Prop} (h:∀T,T.getD 4 .junk = .p 1 0→T.getD 5 .junk = .d (.int .i64 0)→K' T [none,some (plO ((plC p).map V.d)),some (plO ((plC p).map V.d)),none]) :
  vops Tryz.prog false K' o_hx.r.r.r.r.l.os [] (Ta s k x) [none,some zO,some (plO ((plC p).map V.d)),none]:=by
 simp only [o_hx,C.l,C.r,C.os,Ta,zD]
 simp only [plC,List.map_cons,List.map_nil] at h ⊢
 simp
 exact need.of (by decide) (h _ rfl rfl)

theorem o_ps (l:List V) (n i:Nat) (h:l.length≤i):(l++List.replicate n V.junk).getD i .junk = .junk:=by
 rw [List.getD_eq_getElem?_getD,List.getElem?_append_right h,List.getElem?_replicate];split<;>rfl
theorem o_pt {m:Mem} {H:List (Option Ob)} {a:Act} {l:Nat} {sv:Value} (hb:m.base) (hobj:∀n ob,H.getD n none=some ob→m.obj n ob) (hinj:∀n k b,live H n→live H k→m.ρ n=some b→m.ρ k=some b→n=k) (htop:∀n,H.length≤n→m.ρ n=none)
  (hv:(V.p 3 0).rep m sv) (ht:a.tmps = #[.func (.yield l) #[] #[],sv]++Array.replicate 21 undef) (hd:a.defers=[]):Sat m a ([fnY l,.p 3 0]++List.replicate 21 .junk) H:=by
 refine ⟨hb,fun s=>?_,hobj,hinj,htop,by rw [ht];simp,hd⟩
 rcases s with _ | _ | s
 ·rw [ht]
  show V.rep m (fnY l) _
  unfold V.rep
  exact ⟨[],by simp,by simp⟩
 ·rw [ht]
  show V.rep m (.p 3 0) _
  simpa using hv
 ·have:([fnY l,.p 3 0]++List.replicate 21 V.junk).getD (s+2) .junk = .junk:=o_ps _ _ _ (by simp)
  rw [this]
  unfold V.rep
  trivial
def SC:Nat→Bool:=fun n=>n==0 || n==2 || n==3

set_option maxHeartbeats 4000000 in
theorem o_pu (s k:Nat) (s1:1≤s) (s5:s≤5) (hk:k≤1023):Eqn Tryz.prog o_hw [.d (.int .i64 s),.d (.int .i64 k)] [] (.tup [.d (plD (placeY s k)),.d (.int .i64 0)]) []:=by
 refine ⟨Nat.le_refl _,by simp,rfl,by simp,fun m vs mb hargs _ _ htop=>.inr ⟨o_6j o_hy _ _,?_⟩⟩
 obtain ⟨v0,_,rfl,hv0,hargs⟩:=V.reps_cons'.1 hargs
 obtain ⟨v1,_,rfl,hv1,hargs⟩:=V.reps_cons'.1 hargs
 simp at hargs;subst hargs
 have htop:∀n,0≤n→m.ρ n=none:=fun n _=>htop n (Nat.zero_le _)
 obtain ⟨f10,a1,a2,a3,a4,asg,bd,g,ps,id,ops,hf,hb,e1,e2,e3,e4,eg,eps,easg,ebd,e5,ecalm,ers,ent⟩:=o_pg at_s
 simp only at hb e1 e2 e3 e4 eg eps easg ebd e5 ecalm ers ent
 rw [Bool.and_eq_true,Bool.and_eq_true] at ecalm
 obtain ⟨calA,calB,calO⟩:=ecalm
 have eps:ps = #[24,25]:=by rw [←Array.toArray_toList (xs:=ps),eps]
 subst eps
 refine (callsIn_wide (n:=1)).1 (callsIn_of_wp_marks hf hb trivial ?_ rfl)
 have hsize:f10.ntmps-2=29:=by rw [ent]
 have sat0:Sat m { tmps:=#[v0,v1]++Array.replicate (f10.ntmps - #[v0,v1].size) undef,defers:=[] } ([.d (.int .i64 s),.d (.int .i64 k)]++List.replicate 29 .junk) []:=by
  refine ⟨mb,fun i=>?_,by simp,fun n k b ln=>by simp [live] at ln,fun n _=>htop n (Nat.zero_le _),by simp [ent],rfl⟩
  rcases i with _ | _ | i
  ·show V.rep m (.d (.int .i64 s)) _
   rw [Array.getD_eq_getD_getElem?,Array.getElem?_append_left (by simp)]
   exact hv0
  ·show V.rep m (.d (.int .i64 k)) _
   rw [Array.getD_eq_getD_getElem?,Array.getElem?_append_left (by simp)]
   exact hv1
  ·have:([V.d (.int .i64 s),V.d (.int .i64 k)]++List.replicate 29 V.junk).getD (i+2) .junk = .junk:=o_ps _ _ _ (by simp)
   rw [this]
   unfold V.rep
   trivial
 refine AW.then (L:=0) e1 (a_1 s k) sat0 (Mem.le.refl _ _) htop (by simp) fun T1 H1 m1 w1 hq st1 le1 _=>?_
 obtain ⟨m1',hw1,st1',le1',_⟩:=Sat.weaken (T1:=Ta0 s k) (H1:=[some (kO k),some zO]) (Weak.of hq.1 hq.2) st1 le1 htop (by simp)
 rw [←hw1]
 refine AW.then (L:=0) e2 (a_2 s k s1 s5 hk) st1' le1' htop (by simp) fun T2 H2 m2 w2 hq st2 le2 _=>?_
 obtain ⟨m2',hw2,st2',le2',_⟩:=Sat.weaken (T1:=Ta0 s k) (H1:=[some (kO k),some zO]) (Weak.of hq.1 hq.2) st2 le2 htop (by simp)
 rw [←hw2]
 refine AW.then (L:=0) e3 (a_3 s k) st2' le2' htop (by simp) fun T3 H3 m3 w3 hq st3 le3 _=>?_
 obtain ⟨m3',hw3,st3',le3',_⟩:=Sat.weaken (T1:=Ta s k .junk) (H1:=[some (kO k),some zO,some zO]) (Weak.of hq.1 hq.2) st3 le3 htop (by simp)
 rw [←hw3]
 refine wpIn_seq ?_
 refine AW.then (L:=0) e4 (a_4 s k) st3' le3' htop (by simp) fun T4 H4 m4' w4 hq st4 le4 _=>?_
 obtain ⟨m4,hw4,st4',le4',_⟩:=Sat.weaken (T1:=Ta s k (.fn (.func o_hz) [.p 3 0])) (H1:=[some (kO k),some zO,some zO,some (sO s)]) (Weak.of hq.1 hq.2) st4 le4 htop (by simp)
 rw [←hw4]
 clear hw1 hw2 hw3 hw4 st1 st2 st3 st4 st1' st2' st3' le1 le2 le3 le4 le1' le2' le3' hq sat0
 refine wpIn_block (wpIn_rangeFunc fun fn' _=>?_)
 -- the function that is ranged over
 have gt3:(V.p 0 0).rep m4 (w4.tmps.getD 3 undef):=o_po st4' (s:=3) rfl
 have gt6:(V.p 2 0).rep m4 (w4.tmps.getD 6 undef):=o_po st4' (s:=6) rfl
 have gt23:(V.fn (.func o_hz) [.p 3 0]).rep m4 (w4.tmps.getD 23 undef):=o_po st4' (s:=23) rfl
 unfold V.rep at gt23
 obtain ⟨cvs,hg23,hcv⟩:=gt23
 obtain ⟨sv,_,rfl,hsv,hcv⟩:=V.reps_cons'.1 hcv
 simp at hcv;subst hcv
 have hgt:g = .tmp 23:=by
  cases g<;>simp [X.of] at eg
  ·rw [eg]
  ·rename_i v;cases h:D.of1 v<;>simp [h] at eg
 have hgev:w4.eval g = .func (.func o_hz) #[] #[sv]:=by rw [hgt];exact hg23
 obtain ⟨rec,hrec⟩:∃rec:LoopState→Option Code→Loop,rec=fun st pe=>{ state:=st,pending:=pe,fn:=fn',tmps:=w4.tmps,params:=#[24,25],assign:=asg,body:=bd,defers:=m4.w.heap.size }:=⟨_,rfl⟩
 obtain ⟨W1,hW1⟩:∃W1,W1=(m4.w.alloc (.deferred (some []))).alloc (.loop (rec .ready none)):=⟨_,rfl⟩
 have hl1:W1.heap[m4.w.heap.size+1]?=some (.loop (rec .ready none)):=by
  rw [hW1];have:=World.alloc_heap_new (m4.w.alloc (.deferred (some []))) (.loop (rec .ready none));rwa [World.size_alloc] at this
 have hd1:W1.heap[m4.w.heap.size]?=some (.deferred (some [])):=by
  rw [hW1];exact (Below.heap_alloc _ _ _ (by simp)).trans (World.alloc_heap_new m4.w _)
 have satw:Sat (m4.at W1) w4 (Ta s k (.fn (.func o_hz) [.p 3 0])) [some (kO k),some zO,some zO,some (sO s)]:=by
  rw [hW1];exact (st4'.grow _).grow _
 have lew:m.le (m4.at W1) (· < 0):=by
  rw [hW1];exact (le4'.grow st4'.base _).grow (st4'.grow _).base _
 have loD:(m4.at W1).loose m4.w.heap.size:=by
  rw [hW1];exact (o_6h st4'.base _).grow _
 have loL:(m4.at W1).loose (m4.w.heap.size+1):=by
  rw [hW1]
  have:=o_6h (st4'.grow (.deferred (some []))).base (.loop (rec .ready none))
  simpa using this
 have hb4:m.w.heap.size≤m4.w.heap.size:=le4'.size
 have hrep1:∀x v,V.rep m4 x v→V.rep (m4.at W1) x v:=fun x v h=>by
  rw [hW1]
  exact V.rep_off (m:=m4) (m':=m4.at ((m4.w.alloc (.deferred (some []))).alloc (.loop (rec .ready none)))) ⟨rfl,rfl,fun b hb=>(Below.heap_alloc _ _ _ (by simp;have:=st4'.base.imm b hb;omega)).trans (Below.heap_alloc _ _ _ (st4'.base.imm b hb)),fun n b hb=>(Below.heap_alloc _ _ _ (by simp;have:=st4'.base.dom n b hb;omega)).trans (Below.heap_alloc _ _ _ (st4'.base.dom n b hb))⟩ x v h
 generalize hLn:m4.w.heap.size+1=l at *
 generalize hDn:m4.w.heap.size=dd at *
 refine ⟨l,[{ target:=.collected dd,args:=#[] }],W1,{ target:=.fn (.func o_hz) #[sv],args:=#[.func (.yield l) #[] #[]] },W1,o_hz,#[.func (.yield l) #[] #[],sv],W1,?_,?_,fun _ _=>trivial,?_,fun h=>by simp [Fence.wide] at h,?_⟩
 ·have:=run_enterLoop_outer (P:=Tryz.prog) (w:=m4.w) fn' w4.tmps #[24,25] asg bd
  rw [hW1,hrec,←hLn,←hDn]
  exact this
 ·simp only [Go.resolve,hgev]
  simp [go_sem,Deferred.ofValue]
 ·simp [invoke,go_sem]
 refine callsIn_wide.2 ?_
 -- the memory that the walk sees
 have cutr:∀n,SC n=true→((m4.at W1).cut SC).ρ n=m4.ρ n:=fun n h=>by simp [h]
 have cobj:∀(n:Nat) (ty:TypeId) (ds:List D),SC n=true→(m4.at W1).obj n ⟨ty,ds.map V.d⟩→((m4.at W1).cut SC).obj n ⟨ty,ds.map V.d⟩:=by
  rintro n ty ds hn ⟨b,vs,more,h1,h2,h3,h4,h5⟩
  exact ⟨b,vs,more,by rw [cutr n hn];exact h1,h2,h3,o_pp (m:=m4.at W1) (m':=(m4.at W1).cut SC) rfl rfl (show V.reps (m4.at W1) (ds.map V.d) vs from h4),h5⟩
 have prep:∀n o v,SC n=true→(V.p n o).rep (m4.at W1) v→(V.p n o).rep ((m4.at W1).cut SC) v:=by
  intro n o v hn h
  unfold V.rep at h ⊢
  obtain ⟨b,h1,h2⟩:=h
  exact ⟨b,by rw [cutr n hn];exact h1,h2⟩
 have loC:((m4.at W1).cut SC).loose l:=by
  refine ⟨loL.lt,fun n h=>?_,loL.I⟩
  simp only at h
  split at h
  ·exact loL.ρ n h
  ·cases h
 have lv:∀n,live [some (kO k),none,some zO,some (sO s)] n→SC n=true:=fun n h=>by
  rcases n with _ | _ | _ | _ | n<;>first | rfl | (simp [live] at h)
 have hwalk:=o_pr (m:=(m4.at W1).cut SC) (l:=l) (sv:=sv) easg ebd calA calB hrec s k s1 s5 hk
  (fun a ha hd=>o_pt (H:=[some (kO k),none,some zO,some (sO s)]) (Mem.cut_base satw.base SC) (fun n ob h=>by
   rcases n with _ | _ | _ | _ | n
   ·simp at h;subst h;exact cobj 0 _ [.int .i64 k] rfl (satw.obj 0 _ rfl)
   ·simp at h
   ·simp at h;subst h;exact cobj 2 _ zD rfl (satw.obj 2 _ rfl)
   ·simp at h;subst h;exact cobj 3 _ [.int .i64 s] rfl (satw.obj 3 _ rfl)
   ·simp at h) (fun n k' b h1 h2 h3 h4=>by
    have l1:=lv n h1
    have l2:=lv k' h2
    rw [cutr n l1] at h3;rw [cutr k' l2] at h4
    refine satw.inj n k' b ?_ ?_ h3 h4
    ·rcases n with _ | _ | _ | _ | n<;>first | rfl | (simp [live] at h1)
    ·rcases k' with _ | _ | _ | _ | k'<;>first | rfl | (simp [live] at h2)) (fun n h=>by
    have h4:¬SC n=true:=by simp [SC];simp at h;omega
    simp [h4]) (prep 3 0 sv rfl (hrep1 _ _ hsv)) ha hd)
  (prep 0 0 _ rfl (hrep1 _ _ gt3)) (prep 2 0 _ rfl (hrep1 _ _ gt6)) (by rw [satw.size];rfl) loC hl1
 refine hwalk.mono ?_
 rintro e w5 ⟨⟨v,rfl⟩,m5,rfl,b5,o5,le5⟩
 obtain ⟨loC5,hl5⟩:=(loC.put (.loop (rec .done (some (.exit 1))))).keep le5
 have hl5':=hl5.trans (World.putObj_heap_same loC.lt)
 have hrd:∀st pe,(rec st pe).state=st∧(rec st pe).pending=pe:=fun st pe=>by rw [hrec];exact ⟨rfl,rfl⟩
 have hend:=run_endLoop (P:=Tryz.prog) hl5' (by rw [(hrd _ _).1];simp)
 rw [(hrd _ _).2] at hend
 obtain ⟨o6,hend⟩:∃o6,(Instr.endLoop l).run Tryz.prog m5.w = .ok (some (.exit 1)) (m5.w.putObj l o6):=⟨_,hend⟩
 refine ⟨_,_,hend,wpIn_exit ?_⟩
 -- back in the asker
 have hu:=Mem.uncut (m:=(m4.at W1).at (W1.putObj l (.loop (rec .done (some (.exit 1)))))) (S:=SC) le5 (fun n h=>by simp [SC] at h;omega)
 have lo5:(⟨m4.ρ,m5.I,m5.w⟩:Mem).loose l:=((loL.put (.loop (rec .done (some (.exit 1))))).keep hu).1
 have loD5:=(Mem.loose.keep (m:=(m4.at W1).at (W1.putObj l (.loop (rec .done (some (.exit 1)))))) (l:=dd) ⟨by simpa using loD.lt,loD.ρ,loD.I⟩ hu)
 have hne:dd≠l:=by omega
 have hd5:m5.w.heap[dd]?=some (.deferred (some [])):=loD5.2.trans ((World.putObj_heap_other hne).trans hd1)
 have obj2:(⟨m4.ρ,m5.I,m5.w⟩:Mem).obj 2 (plO ((plC (placeY s k)).map V.d)):=by
  obtain ⟨b,vs,more,h1,h2,h3,h4,h5⟩:=o5
  obtain ⟨b',hb'⟩:=o_pk (satw.obj 2 _ rfl)
  have:=le5.ρ 2 b' (by show (if SC 2=true then m4.ρ 2 else none)=some b';rw [if_pos (show SC 2=true from rfl)];exact hb')
  rw [h1] at this
  cases this
  exact ⟨b,vs,more,hb',h2,h3,o_pp (m:=m5) (m':=⟨m4.ρ,m5.I,m5.w⟩) rfl rfl (show V.reps m5 ((plC (placeY s k)).map V.d) vs from h4),h5⟩
 have sat5:Sat ⟨m4.ρ,m5.I,m5.w⟩ w4 (Ta s k (.fn (.func o_hz) [.p 3 0])) [none,some zO,some (plO ((plC (placeY s k)).map V.d)),none]:=by
  refine Sat.uncut (m:=(m4.at W1).at (W1.putObj l (.loop (rec .done (some (.exit 1)))))) (loL.sat (.loop (rec .done (some (.exit 1)))) satw) b5 hu (fun n h=>?_) rfl fun n ob h=>?_
  ·simp [SC] at h
   rcases h with (rfl | rfl) | rfl<;>rfl
  ·rcases n with _ | _ | _ | _ | n
   ·simp at h
   ·right;simp at h;subst h;exact ⟨rfl,rfl⟩
   ·left;simp at h;subst h;exact ⟨rfl,obj2⟩
   ·simp at h
   ·simp at h
 have le5':m.le ⟨m4.ρ,m5.I,m5.w⟩ (· < 0):=by
  refine Mem.le.trans (lew.far mb (l:=l) (by omega) (.loop (rec .done (some (.exit 1))))) hu fun n b h _=>?_
  rw [htop n (Nat.zero_le _)] at h;cases h
 have sat6:=lo5.sat o6 sat5
 have le6:=le5'.far mb (l:=l) (by omega) o6
 have hd6:(m5.w.putObj l o6).heap[dd]?=some (.deferred (some [])):=(World.putObj_heap_other hne).trans hd5
 have loD6:((⟨m4.ρ,m5.I,m5.w⟩:Mem).at (m5.w.putObj l o6)).loose dd:=⟨by simpa using loD5.1.lt,loD5.1.ρ,loD5.1.I⟩
 show (Code.seq (.region id ops false) .ret).wpIn Fence.wide 1 _ _ _ _
 refine wpIn_seq (o_6i ?_)
 have hops:ops.toList=ops.toList++[]:=(List.append_nil _).symm
 rw [hops]
 refine o_6d (D:=[{ target:=.collected dd,args:=#[] }]) (Q:=fun e a w=>e = .normal∧∃T' H' m',m'.w=w∧Sat m' a T' H'∧T'.getD 4 .junk = .p 1 0∧T'.getD 5 .junk = .d (.int .i64 0)∧H'=[none,some (plO ((plC (placeY s k)).map V.d)),some (plO ((plC (placeY s k)).map V.d)),none]∧m.le m' (· < 0)∧((⟨m4.ρ,m5.I,m5.w⟩:Mem).at (m5.w.putObj l o6)).le m' (· < 4)) ?_ _ w4 _ _ ⟨rfl,by rw [st4'.defers];rfl⟩ ?_
 ·rintro e a a' w hbes ⟨rfl,T7,H7,m7,rfl,st7,h4,h5,rfl,le0,le7⟩
  refine wpIn_ret ?_
  have hdf:a'.defers=[{ target:=.collected dd,args:=#[] }]:=by rw [hbes.defers,st7.defers];rfl
  show LeavesInM _ _ _ _ _ _ a'.defers _ _
  rw [hdf,←hbes.tmps]
  obtain ⟨lo7,hl7⟩:=loD6.keep le7
  have hd7:=hl7.trans hd6
  refine ⟨by simp,.inl ⟨dd,_,rfl,run_takeDeferred hd7,?_⟩⟩
  have sat8:=lo7.sat (.deferred none) st7
  obtain ⟨v,hv1,hv2⟩:=o_5d (P:=Tryz.prog) sat8 f10 (.tup [.d (plD (placeY s k)),.d (.int .i64 0)]) (by
   rw [ers]
   simp only [outV,outs,RV.out,h4,h5]
   rfl)
  refine ⟨v,hv1,v,⟨fun _=>none,m7.I,m7.w.putObj dd (.deferred none)⟩,rfl,rfl,?_⟩
  have lem:=le0.far mb (l:=dd) (by omega) (.deferred none)
  refine ⟨⟨sat8.base.imm,fun n b h=>(by cases h),sat8.base.tabs.mono (fun _ h=>h) (fun _ _=>rfl)⟩,⟨fun n b h=>(by rw [htop n (Nat.zero_le _)] at h;cases h),lem.I,lem.os,lem.tape,lem.output,lem.drawn,lem.size,lem.block,lem.shape,lem.imm,lem.newI,fun n b h=>(by cases h)⟩,?_,by simp,by simp,fun _ _=>rfl,fun n b _ h=>(by cases h)⟩
  unfold V.rep at hv2 ⊢
  obtain ⟨us,h1,h2⟩:=hv2
  exact ⟨us,h1,o_pp (ds:=[plD (placeY s k),.int .i64 0]) (m:=m7.at (m7.w.putObj dd (.deferred none))) rfl rfl h2⟩
 ·refine o_69 (l:=none) (L:=4) (m0:=(⟨m4.ρ,m5.I,m5.w⟩:Mem).at (m5.w.putObj l o6)) (m:=(⟨m4.ρ,m5.I,m5.w⟩:Mem).at (m5.w.putObj l o6)) (K:=fun T H=>T.getD 4 .junk = .p 1 0∧T.getD 5 .junk = .d (.int .i64 0)∧H=[none,some (plO ((plC (placeY s k)).map V.d)),some (plO ((plC (placeY s k)).map V.d)),none]) [] calO (by rw [e5];exact a_5 s k _ _ fun T h1 h2=>⟨h1,h2,rfl⟩) sat6 (Mem.le.refl _ _) sat6.top (by simp) fun T7 H7 a7 m7 hq st7 le7 _=>?_
  refine wpListIn_nil ⟨rfl,T7,H7,m7,rfl,st7,hq.1,hq.2.1,hq.2.2,?_,le7⟩
  refine Mem.le.trans le6 le7 fun n b h _=>?_
  rw [htop n (Nat.zero_le _)] at h;cases h

theorem Sub1.aggd {l r:List D} (h:Subs (l.map V.d) (r.map V.d)):Sub1 (.d (.agg l)) (.d (.agg r)):=fun m v k=>by
 rw [V.rep_d] at k ⊢
 unfold D.rep at k ⊢
 obtain ⟨vs,h1,h2,h3⟩:=k
 exact ⟨vs,h1,h2,V.reps_map_d.1 (h m vs (V.reps_map_d.2 h3))⟩
end
section
open Go.RowKit
end
section
open Go.RowKit
theorem o_pv {d k:Nat} (hd:d≤8) (hk:k≤1023):wrongZ d [(k:Int)]=0:=by
 rw [wrongZ,if_pos (by omega),if_pos]
 simp [okK];omega

theorem o_pw (d k:Nat) (hd:d≤8) (hk:k≤1023) (hu:k/2^d<64) :
  Eqn Tryz.prog o_h8 [.d (.int .i64 d),.d (.int .i64 k)] [] (.tup [.d (.agg [natW 1,.bool false,natW (2^(k/2^d)-1)]),.d (.int .i64 0)]) []:=by
 refine Eqn.pure o_ha (o_k0 _ _) ?_
 refine cc (c':=?z80) ?_ ?_
 case refine_1=>cbv<;>exact rfl
 refine G0 ?_;try with_reducible exact tt
 refine CallS.pf 1 1 ⟨3,_⟩ [.int .i64 k] (o_on d k) (by first | rfl | (simp;done)) (R0 ?_);try with_reducible exact tt
 have hw:=o_pv hd hk
 refine AW.cond rfl (fun h=>?_) (fun h=>?_)
 ·simp [hw] at h
 have hp:=o_om d k (by omega) (by omega)
 generalize k/2^d=u at hp hu ⊢
 refine G0 ?_;try with_reducible exact tt
 refine CallS.pu (hp) (R0 ?_);try with_reducible exact tt
 refine CallS.pu (o_m2 u hu) (R0 ?_);try with_reducible exact tt

def p2 (n:Nat):Nat:=2^n
theorem o_px:p2 0=1:=rfl
theorem o_py (n:Nat):p2 (n+1)=2*p2 n:=by rw [p2,p2,Nat.pow_succ,Nat.mul_comm]
theorem o_pz {n m:Nat} (h:n≤m):p2 n≤p2 m:=Nat.pow_le_pow_right (by omega) h

theorem o_q0 (d:Nat) (hd:d≤60):Eqn Tryz.prog o_az [.d (.int .i64 d)] [] (.d (.int .i64 (p2 d))) []:=by
 refine Eqn.pure o_b1 (o_5e _) ?_
 refine cc (c':=?z81) ?_ ?_
 case refine_1=>cbv<;>exact rfl
 refine G0 ?_;try with_reducible exact tt
 refine AW.loopT (α:=Nat) 0 (fun i=>[(4,.d (.int .i64 (i:Int))),(3,.d (.int .i64 (p2 i)))]) (fun i=>[]) (fun i=>i≤d) (fun i=>d-i) 0 ?_ ?_ (Nat.zero_le _) ?_ ?_ ?_
 ·simp
 ·simp
 ·simp [o_px]
 ·simp
 rintro i hi
 have hle:p2 i≤2^60:=o_pz (m:=60) (by omega)
 simp
 by_cases h:i=d
 ·subst h
  refine G0 ?_;try with_reducible exact tt
  refine AW.cond rfl (fun h=>?_) (fun h=>?_)
  ·simp at h
  refine G0 ?_;try with_reducible exact tt
 ·have hlt:(i:Int)<d:=by omega
  have hlt':i<d:=by omega
  have e1:IntKind.i64.wrap (2*(p2 i:Int))=(p2 (i+1):Int):=by rw [o_py];exact w64 (by omega) (by omega)
  have e2:IntKind.i64.wrap ((i:Int)+1)=(i:Int)+1:=w64 (by omega) (by omega)
  refine G1 (fs hlt hlt') ?_;try with_reducible exact tt
  refine AW.cond rfl (fun h=>?_) (fun h=>?_)
  ·refine G1 (fs e1 e2) ?_;try with_reducible exact tt
   exact ⟨i+1,by omega,by omega,by simp,by simp⟩
  ·simp [hlt'] at h
end
section
open Go.RowKit
end
section
open Go.RowKit
theorem o_q1 (x:Nat) (hx:x<18446744073709551616):Eqn Tryz.prog o_d2 [.d (.int .u64 x)] [] (.d (.int .i64 (bitsN x))) []:=by
 refine Eqn.pure o_d4 (o_5e _) ?_
 refine cc (c':=?z82) ?_ ?_
 case refine_1=>cbv<;>exact rfl
 refine G0 ?_;try with_reducible exact tt
 refine AW.cond rfl (fun h=>?_) (fun h=>?_)
 ·simp at h
 refine G0 ?_;try with_reducible exact tt
 refine CallS.pu (o_l6 x hx) (R0 ?_);try with_reducible exact tt

theorem o_q2 (a w:Nat) (h1:1≤a) (h2:a≤4096) (w1:1≤w) (w2:w≤10) (hm:bitsN (a+1)*(2^w-1)≤8192):Eqn Tryz.prog o_dh [.d (.agg [.int .i64 1,.int .i64 a,.int .i64 w])] [] (.d (.int .i64 0)) []:=by
 refine Eqn.pure o_dj (o_5e _) ?_
 refine cc (c':=?z83) ?_ ?_
 case refine_1=>cbv<;>exact rfl
 have hk:=o_p3 1 a w
 rw [kindD,if_pos rfl] at hk
 have hg:=o_p1 a
 rw [show decide (1≤(a:Int)∧(a:Int)≤4096)=true by simp;omega] at hg
 have g1:¬(w:Int)<1:=by omega
 have g2:¬(10:Int)<w:=by omega
 refine G0 ?_;try with_reducible exact tt
 refine CallS.pu (hk) (R1 (fs g1 g2) ?_);try with_reducible exact tt
 refine ⟨_,o_oy,?_⟩
 refine CallS.pu (hg) (R1 (fs g1 g2) ?_);try with_reducible exact tt
 refine AW.cond rfl (fun h=>?_) (fun h=>?_)
 ·simp [g1,g2] at h
 clear h
 have e1:IntKind.i64.wrap ((a:Int)+1)=((a+1:Nat):Int):=w64 (by omega) (by omega)
 have e2:IntKind.u64.wrap ((a+1:Nat):Int)=((a+1:Nat):Int):=wu64 (by omega) (by omega)
 have hb:=o_q1 (a+1) (by omega)
 have hbl:bitsN (a+1)≤8192:=by
  refine Nat.le_trans (Nat.le_mul_of_pos_right _ ?_) hm
  have:=Nat.pow_le_pow_right (n:=2) (by omega) w1
  omega
 have h2':0<2^w:=Nat.two_pow_pos w
 have h2:2^w≤1024:=Nat.pow_le_pow_right (n:=2) (by omega) w2
 have e0:(2:Int)^w=(2^w:Nat):=by rw [Int.natCast_pow];rfl
 generalize 2^w=S at *
 generalize bitsN (a+1)=B at *
 generalize a+1=a1 at *
 have e3:IntKind.i64.wrap (S:Int)=S:=w64 (by omega) (by omega)
 have e4:IntKind.i64.wrap ((S:Int)-1)=((S-1:Nat):Int):=by rw [w64 (by omega) (by omega)];omega
 have e5:IntKind.i64.wrap ((B:Int)*((S-1:Nat):Int))=((B*(S-1):Nat):Int):=by
  rw [←Int.natCast_mul]
  generalize B*(S-1)=x at *
  exact w64 (by omega) (by omega)
 have g3:¬(8192:Int)<((B*(S-1):Nat):Int):=by omega
 generalize hS1:S-1=S1 at *
 obtain ⟨x,hx⟩:∃x,x=B*S1:=⟨_,rfl⟩
 rw [←hx] at e5 g3
 refine G1 (fs e1 e2) ?_;try with_reducible exact tt
 refine CallS.pu (hb) (R1 (fs e0 (fs e3 (fs e4 (fs e5 g3)))) ?_);try with_reducible exact tt
 refine AW.cond rfl (fun h=>?_) (fun h=>?_)
 ·simp [g3] at h
 refine G0 ?_;try with_reducible exact tt

theorem o_q3 (a:Int):Eqn Tryz.prog o_hn [.d (.int .i64 a)] [] (.d (.bool (decide (1≤a∧a≤5)))) []:=by
 refine Eqn.pure o_hp (o_5e _) ?_
 refine cc (c':=?z84) ?_ ?_
 case refine_1=>cbv<;>exact rfl
 refine G0 ?_;try with_reducible exact tt
 refine CallS.pu (o_p4 a) (R0 ?_);try with_reducible exact tt

theorem o_q4 (a w:Nat) (h2:a≤8) (w1:1≤w) (w2:w≤10):Eqn Tryz.prog o_dh [.d (.agg [.int .i64 2,.int .i64 a,.int .i64 w])] [] (.d (.int .i64 0)) []:=by
 refine Eqn.pure o_dj (o_5e _) ?_
 refine cc (c':=?z85) ?_ ?_
 case refine_1=>cbv<;>exact rfl
 have hk:=o_p3 2 a w
 rw [kindD,if_neg (by omega),if_pos rfl] at hk
 have hg:=o_p2 a
 rw [show decide (0≤(a:Int)∧(a:Int)≤8)=true by simp;omega] at hg
 have g1:¬(w:Int)<1:=by omega
 have g2:¬(10:Int)<w:=by omega
 refine G0 ?_;try with_reducible exact tt
 refine CallS.pu (hk) (R1 (fs g1 g2) ?_);try with_reducible exact tt
 refine ⟨_,o_oz,?_⟩
 refine CallS.pu (hg) (R1 (fs g1 g2) ?_);try with_reducible exact tt
 refine AW.cond rfl (fun h=>?_) (fun h=>?_)
 ·simp [g1,g2] at h
 clear h
 refine G0 ?_;try with_reducible exact tt
 refine AW.cond rfl (fun h=>?_) (fun h=>?_)
 ·simp at h
 refine G0 ?_;try with_reducible exact tt
theorem o_q5 (a w:Nat) (h1:1≤a) (h2:a≤5) (w1:1≤w) (w2:w≤10):Eqn Tryz.prog o_dh [.d (.agg [.int .i64 3,.int .i64 a,.int .i64 w])] [] (.d (.int .i64 0)) []:=by
 refine Eqn.pure o_dj (o_5e _) ?_
 refine cc (c':=?z86) ?_ ?_
 case refine_1=>cbv<;>exact rfl
 have hk:=o_p3 3 a w
 rw [kindD,if_neg (by omega),if_neg (by omega),if_pos rfl] at hk
 have hg:=o_q3 a
 rw [show decide (1≤(a:Int)∧(a:Int)≤5)=true by simp;omega] at hg
 have g1:¬(w:Int)<1:=by omega
 have g2:¬(10:Int)<w:=by omega
 refine G0 ?_;try with_reducible exact tt
 refine CallS.pu (hk) (R1 (fs g1 g2) ?_);try with_reducible exact tt
 refine ⟨_,o_p0,?_⟩
 refine CallS.pu (hg) (R1 (fs g1 g2) ?_);try with_reducible exact tt
 refine AW.cond rfl (fun h=>?_) (fun h=>?_)
 ·simp [g1,g2] at h
 clear h
 refine G0 ?_;try with_reducible exact tt
 refine AW.cond rfl (fun h=>?_) (fun h=>?_)
 ·simp at h
 refine G0 ?_;try with_reducible exact tt
end
section
open Go.RowKit
def parD (k a w:Int):D:=.agg [.int .i64 k,.int .i64 a,.int .i64 w]
theorem o_q6 (k a:Int) (w:Nat) (w2:w≤10) (hc:Eqn Tryz.prog o_dh [.d (parD k a w)] [] (.d (.int .i64 0)) []):Eqn Tryz.prog o_bh [.d (parD k a w)] [] (.d (.int .i64 (2^w-1:Nat))) []:=by
 refine Eqn.pure o_bj (o_5e _) ?_
 refine cc (c':=?z87) ?_ ?_
 case refine_1=>cbv<;>exact rfl
 try simp only [parD] at hc ⊢
 have h2':0<2^w:=Nat.two_pow_pos w
 have h2:2^w≤1024:=Nat.pow_le_pow_right (n:=2) (by omega) w2
 have e0:(2:Int)^w=(2^w:Nat):=by rw [Int.natCast_pow];rfl
 generalize 2^w=S at *
 have e3:IntKind.i64.wrap (S:Int)=S:=w64 (by omega) (by omega)
 have e4:IntKind.i64.wrap ((S:Int)-1)=((S-1:Nat):Int):=by rw [w64 (by omega) (by omega)];omega
 generalize S-1=S1 at *
 refine G0 ?_;try with_reducible exact tt
 refine CallS.pu (hc) (R0 ?_);try with_reducible exact tt
 refine AW.cond rfl (fun h=>?_) (fun h=>?_)
 ·simp at h
 refine G1 (fs e0 (fs e3 e4)) ?_;try with_reducible exact tt

theorem o_q7 (k a:Int) (w:Nat) (w2:w≤10) (x:Int) (h0:0≤x) (h1:x≤(2^w-1:Nat)) (hc:Eqn Tryz.prog o_dh [.d (parD k a w)] [] (.d (.int .i64 0)) []):Eqn Tryz.prog o_cw [.d (parD k a w),.d (.sl 1 [.int .i64 x])] [] (.d (.int .i64 0)) []:=by
 refine Eqn.pure o_cy (o_5e _) ?_
 have ht:=o_q6 k a w w2 hc
 refine cc (c':=?z88) ?_ ?_
 case refine_1=>cbv<;>exact rfl
 try simp only [parD] at hc ht ⊢
 generalize 2^w-1=S at *
 refine G0 ?_;try with_reducible exact tt
 refine CallS.pu (hc) (R0 ?_);try with_reducible exact tt
 refine AW.cond rfl (fun h=>?_) (fun h=>?_)
 ·simp at h
 refine G0 ?_;try with_reducible exact tt
 refine AW.loopT (α:=Nat) 1 (fun i=>[(15,.d (.int .i64 (i:Int)))]) (fun i=>[]) (fun i=>i≤1) (fun i=>1-i) 0 ?_ ?_ (Nat.zero_le _) ?_ ?_ ?_
 ·simp
 ·simp
 ·simp
 ·simp
 rintro i hi
 simp
 have g1:¬x<0:=by omega
 have g2:¬(S:Int)<x:=by omega
 by_cases h:i=1
 ·subst h
  refine G0 ?_;try with_reducible exact tt
  refine AW.cond rfl (fun h=>?_) (fun h=>?_)
  ·simp at h
  refine AW.exit ?_
  (try (simp -implicitDefEqProofs;try simp (disch:=omega) only [w64,wu64]))
  refine G0 ?_;try with_reducible exact tt
 ·obtain rfl:i=0:=by omega
  refine G0 ?_;try with_reducible exact tt
  refine AW.cond rfl (fun h=>?_) (fun h=>?_)
  ·refine G1 (fs g1 g2) ?_;try with_reducible exact tt
   refine CallS.pu (ht) (R1 (fs g1 g2) ?_);try with_reducible exact tt
   refine AW.cond rfl (fun h=>?_) (fun h=>?_)
   ·simp [g1,g2] at h
   have ew:IntKind.i64.wrap 1=1:=w64 (by omega) (by omega)
   refine G1 ew ?_;try with_reducible exact tt
   exact ⟨1,by omega,by omega,by simp⟩
  ·simp at h
end
section
open Go.RowKit
end
section
open Go.RowKit
end
section
open Go.RowKit
end
section

end
section
open Go.RowKit
end
section
open Go.RowKit
def GoodS (k a w:Nat):Prop:=(k=1∧1≤a∧a≤4∨k=2∧a≤1∨k=3∧1≤a∧a≤2)∧1≤w∧w≤4

theorem o_q8 {k a w:Nat} (h:GoodS k a w):Eqn Tryz.prog o_dh [.d (parD k a w)] [] (.d (.int .i64 0)) []:=by
 obtain ⟨h,h1,h2⟩:=h
 rcases h with ⟨rfl,h3,h4⟩ | ⟨rfl,h3⟩ | ⟨rfl,h3,h4⟩
 ·refine o_q2 a w (by omega) (by omega) h1 (by omega) ?_
  have ha:a=1∨a=2∨a=3∨a=4:=by omega
  have hw:w=1∨w=2∨w=3∨w=4:=by omega
  rcases ha with rfl | rfl | rfl | rfl<;>rcases hw with rfl | rfl | rfl | rfl<;>decide
 ·exact o_q4 a w (by omega) h1 (by omega)
 ·exact o_q5 a w (by omega) (by omega) h1 (by omega)
end
section
open Go.RowKit
end
section
open Go.RowKit
end
section
open Go.RowKit
end
section
open Go.RowKit
end
section
open Go.RowKit
structure Live (p:Nat) (R:Bool×Int×Nat×Bool):Prop where
 err:R.2.1=0∨R.2.1=8
 dead:R.2.2.2=true↔R.2.1≠0
 no:R.2.1≠0→R.1=false
 le:p≤R.2.2.1

theorem Live.mono {p q:Nat} {R:Bool×Int×Nat×Bool} (h:Live q R) (hq:p≤q):Live p R:=⟨h.err,h.dead,h.no,Nat.le_trans hq h.le⟩
theorem Live.ok {p:Nat} {R:Bool×Int×Nat×Bool} (h:Live p R) (h1:R.2.1=0):R.2.2.2=false:=by
 cases hd:R.2.2.2 with
 | false=>rfl
 | true=>exact absurd h1 (h.dead.1 hd)
end
section
open Go.RowKit
theorem o_q9 : MethOK Tryz.prog 148 "tallymark/chain.chance" o_h2 := fun v w => by kernel_rfl
theorem o_qa : MethOK Tryz.prog 149 "tallymark/chain.chance" o_hk := fun v w => by kernel_rfl

def halfD (e:Nat):D:=.agg [natW 1,.bool false,natW (2^e-1)]
def expOf (k a x:Nat):Nat:=if k=2 then x/2^a else (placeY a x).shift

theorem o_qb (d k:Nat) (hd:d≤8) (hk:k≤1023) (hu:k/2^d<64):Eqn Tryz.prog o_h2 [.d (.int .i64 d),.d (.int .i64 k)] [] (.tup [.d (halfD (k/2^d)),.d (.int .i64 0)]) []:=by
 refine Eqn.pure o_h4 (o_k0 _ _) ?_
 have h:=o_pw d k hd hk hu
 refine cc (c':=?z91) ?_ ?_
 case refine_1=>cbv<;>exact rfl
 try simp only [halfD]
 generalize natW (2^(k/2^d)-1)=Z at *
 refine G0 ?_;try with_reducible exact tt
 refine CallS.pu (h) (R0 ?_);try with_reducible exact tt

theorem o_qc:∀a,a<3→∀x,x<16→(placeY a x).shift<64:=by decide

theorem o_qd (s k:Nat) (h1:1≤s) (h2:s≤5) (hk:k≤1023) (hu:(placeY s k).shift<64):Eqn Tryz.prog o_hq [.d (.int .i64 s),.d (.int .i64 k)] [] (.tup [.d (halfD (placeY s k).shift),.d (.int .i64 0)]) []:=by
 refine Eqn.pure o_hs (o_k0 _ _) ?_
 have ha:=o_pu s k h1 h2 hk
 generalize placeY s k=P at *
 obtain ⟨px,ps,pv,pr⟩:=P
 simp only at hu
 have hh:=o_m2 ps hu
 refine cc (c':=?z92) ?_ ?_
 case refine_1=>cbv<;>exact rfl
 try simp only [halfD,plD] at ha ⊢
 generalize natW (2^ps-1)=Z at *
 refine G0 ?_;try with_reducible exact tt
 refine CallS.pu (ha) (R0 ?_);try with_reducible exact tt
 refine AW.cond rfl (fun h=>?_) (fun h=>?_)
 ·simp at h
 refine G0 ?_;try with_reducible exact tt
 refine CallS.pu (hh) (R0 ?_);try with_reducible exact tt

theorem o_qe (s k:Nat) (h1:1≤s) (h2:s≤5) (hk:k≤1023) (hu:(placeY s k).shift<64):Eqn Tryz.prog o_hk [.d (.int .i64 s),.d (.int .i64 k)] [] (.tup [.d (halfD (placeY s k).shift),.d (.int .i64 0)]) []:=by
 refine Eqn.pure o_hm (o_k0 _ _) ?_
 have h:=o_qd s k h1 h2 hk hu
 refine cc (c':=?z93) ?_ ?_
 case refine_1=>cbv<;>exact rfl
 try simp only [halfD] at h ⊢
 generalize natW (2^(placeY s k).shift-1)=Z at *
 refine G0 ?_;try with_reducible exact tt
 refine CallS.pu (h) (R0 ?_);try with_reducible exact tt

theorem o_qf {k a w x:Nat} (h:GoodS k a w) (hk:k≠1) (hx:x≤15):expOf k a x<64:=by
 unfold expOf
 split
 ·have:x/2^a≤x:=Nat.div_le_self _ _
  omega
 ·exact o_qc a (by have:=h.1;omega) x (by omega)

theorem o_qg {k a w x : Nat} (h : GoodS k a w) (hk : k ≠ 1) (hx : x ≤ 15) : ∃ ti d g, MethOK Tryz.prog ti "tallymark/chain.chance" g ∧ kindD k a = .ifc ti d ∧ Eqn Tryz.prog g [.d d, .d (.int .i64 x)] [] (.tup [.d (halfD (expOf k a x)), .d (.int .i64 0)]) [] := by
 have hs:=o_qf h hk hx
 obtain ⟨h,-⟩:=h
 rcases h with ⟨rfl,-⟩ | ⟨rfl,h1⟩ | ⟨rfl,h1,h2⟩
 ·exact absurd rfl hk
 ·exact ⟨_,_,_,o_q9,rfl,o_qb a x (by omega) (by omega) hs⟩
 ·exact ⟨_,_,_,o_qa,rfl,o_qe a x h1 (by omega) (by omega) hs⟩

theorem o_qh {e:Nat} (h:e<64):size (2^e)≤1:=o_lv (by have:=Nat.pow_lt_pow_right (a:=2) (by omega) h;omega)
end
section
open Go.RowKit
end
section
open Go.RowKit
end
section
open Go.RowKit
def valM (a k:Nat):Rat:=(a:Rat)*((mkRat ((a+1:Nat):Int) a)^k-((1:Nat):Rat))

theorem o_qi {x n:Nat} (h:bitsN x*n≤8192):size (x^n)≤129:=by
 refine o_m3 (n:=bitsN x*n+1) ?_ (by omega)
 rw [Nat.pow_succ]
 have h3:x^n≤(2^bitsN x)^n:=Nat.pow_le_pow_left (Nat.le_of_lt (o_kn x)) n
 rw [←Nat.pow_mul] at h3
 have:=Nat.two_pow_pos (bitsN x*n)
 omega
end
section
open Go.RowKit
def chM (a k:Nat):Rat:=mkRat (a:Int) (a+1)^k
theorem o_qj {a:Nat}:(mkRat (a:Int) (a+1)).num=(a:Int)∧(mkRat (a:Int) (a+1)).den=a+1:=by
 obtain ⟨p1,p2,p3⟩:=o_nm (a:Int) (a+1) (by omega)
 rw [Int.natAbs_natCast] at p1 p2
 have hg:Nat.gcd a (a+1)=1:=by
  rcases Nat.eq_zero_or_pos a with rfl | h
  ·rfl
  ·rw [Nat.gcd_rec,show (a+1)%a=1%a by rw [Nat.add_mod_left],←Nat.gcd_rec,Nat.gcd_one_right]
 rw [hg,Nat.div_one] at p1 p2
 refine ⟨?_,p2⟩
 have:¬(mkRat (a:Int) (a+1)).num<0:=fun h=>by have:=p3.1 h;omega
 omega
theorem o_qk (x:Rat):cmpQ x x=0:=by unfold cmpQ;rw [if_neg Rat.lt_irrefl,if_neg Rat.lt_irrefl]
end
end Go.Proofs.YtidfejfgmlakpaaGreatDoor.Am

namespace Go.Proofs.YtidfejfgmlakpaaGreatDoor.Am
section
open Go.RowKit
theorem o_ql (a k:Nat) (h1:1≤a) (h2:a≤4096) (hk:k≤1023) (hb:bitsN (a+1)*k≤8192):Eqn Tryz.prog o_gk [.d (.int .i64 a),.d (.int .i64 k)] [] (.tup [.d (rD (chM a k)),.d (.int .i64 0)]) []∧RS (chM a k) 300:=by
 obtain ⟨q1,q2⟩:=o_qj (a:=a)
 have hmk:=o_ou a (a+1) (by omega) (by omega) (by omega)
 obtain ⟨x,hx⟩:∃x,x=mkRat (a:Int) (a+1):=⟨_,rfl⟩
 have hv:chM a k=x^k:=by rw [hx];rfl
 rw [←hx] at q1 q2 hmk
 have hba:bitsN a≤bitsN (a+1):=o_ko (Nat.lt_trans (Nat.lt_succ_self a) (o_kn _))
 have hb2:bitsN a*k≤8192:=Nat.le_trans (Nat.mul_le_mul_right _ hba) hb
 have le8:∀q:Nat,q*k≤8192→q≤1∨k≤8192/q:=fun q h=>by
  by_cases h1:q≤1
  ·exact .inl h1
  ·right;rw [Nat.le_div_iff_mul_le (by omega),Nat.mul_comm];exact h
 have hxs:RS x 129:=⟨by rw [q1,Int.natAbs_natCast];exact Nat.le_trans (o_lv (by omega)) (by omega),by rw [q2];exact Nat.le_trans (o_lv (by omega)) (by omega)⟩
 have hpow:=o_os x k (by omega) (by omega) (by rw [q1,Int.natAbs_natCast];exact le8 _ hb2) (by rw [q2];exact le8 _ hb) hxs (by rw [q1,Int.natAbs_natCast];exact Nat.le_trans (o_qi hb2) (by omega)) (by rw [q2];exact Nat.le_trans (o_qi hb) (by omega))
 have hps:RS (x^k) 129:=⟨by rw [Rat.num_pow,Int.natAbs_pow,q1,Int.natAbs_natCast];exact o_qi hb2,by rw [Rat.den_pow,q2];exact o_qi hb⟩
 refine ⟨?_,by rw [hv];exact hps.le (by omega)⟩
 have hw:=o_oq a k
 rw [show wrongM (a:Int) [(k:Int)]=0 by unfold wrongM;rw [if_pos (by omega),if_pos (by simp [okK];omega)]] at hw
 have e1:IntKind.i64.wrap ((a:Int)+1)=((a+1:Nat):Int):=by rw [w64 (by omega) (by omega)];omega
 refine Eqn.pure o_gm Plain.ok ?_
 rw [hv]
 clear hv hxs hps q1 q2 hx
 generalize x^k=xk at *
 generalize ha1:a+1=a' at *
 refine cc (c':=?z103) ?_ ?_
 case refine_1=>cbv<;>exact rfl
 try simp only [rD] at hmk hpow ⊢
 refine G0 ?_;try with_reducible exact tt
 refine CallS.pf 1 1 ⟨3,_⟩ [.int .i64 k] (hw) (by first | rfl | (simp [e1];done)) (R1 e1 ?_);try with_reducible exact tt
 refine AW.cond rfl (fun h=>?_) (fun h=>?_)
 ·simp at h
 refine G1 e1 ?_;try with_reducible exact tt
 refine CallS.pu (hmk) (R0 ?_);try with_reducible exact tt
 refine CallS.pu (hpow) (R0 ?_);try with_reducible exact tt
end
section
open Go.RowKit
def renA:Go.Shelf.Ren:=⟨fun | 6=>45 | 15=>81 | 14=>80 | 28=>118 | 29=>119 | 20=>110 | 21=>111 | 22=>112 | 23=>113 | 24=>114 | 25=>115 | 26=>116 | 27=>117 | 46=>134 | 47=>135 | 48=>136 | 49=>137 | 50=>138 | 57=>147 | n=>n,fun | 22=>31 | 24=>48 | 25=>86 | 3=>3 | 39=>117 | 0=>0 | 53=>159 | 55=>105 | 4=>4 | 46=>152 | 45=>151 | 50=>156 | 5=>5 | 9=>9 | 66=>172 | 70=>176 | 76=>185 | 77=>186 | n=>n,fun n=>n⟩
theorem sortL:Go.Proofs.SlLaysF0.n6 Tryz.prog renA where
 mixed:=by kernel_rfl
 f6 := ⟨"slices.SortFunc[[]tallymark/pmf.Atom,tallymark/pmf.Atom]", of_decide_eq_true (by kernel_rfl), Tryz.func45.trans (congrArg some (by kernel_rfl))⟩
 f14 := ⟨"slices.pdqsortCmpFunc[tallymark/pmf.Atom]", of_decide_eq_true (by kernel_rfl), Tryz.func80.trans (congrArg some (by kernel_rfl))⟩
 f15:=Tryz.func81.trans (congrArg some (by kernel_rfl))
 f20 := ⟨"slices.insertionSortCmpFunc[tallymark/pmf.Atom]", of_decide_eq_true (by kernel_rfl), Tryz.func110.trans (congrArg some (by kernel_rfl))⟩
 f21 := ⟨"slices.heapSortCmpFunc[tallymark/pmf.Atom]", of_decide_eq_true (by kernel_rfl), Tryz.func111.trans (congrArg some (by kernel_rfl))⟩
 f22 := ⟨"slices.breakPatternsCmpFunc[tallymark/pmf.Atom]", of_decide_eq_true (by kernel_rfl), Tryz.func112.trans (congrArg some (by kernel_rfl))⟩
 f23 := ⟨"slices.choosePivotCmpFunc[tallymark/pmf.Atom]", of_decide_eq_true (by kernel_rfl), Tryz.func113.trans (congrArg some (by kernel_rfl))⟩
 f24 := ⟨"slices.reverseRangeCmpFunc[tallymark/pmf.Atom]", of_decide_eq_true (by kernel_rfl), Tryz.func114.trans (congrArg some (by kernel_rfl))⟩
 f25 := ⟨"slices.partialInsertionSortCmpFunc[tallymark/pmf.Atom]", of_decide_eq_true (by kernel_rfl), Tryz.func115.trans (congrArg some (by kernel_rfl))⟩
 f26 := ⟨"slices.partitionEqualCmpFunc[tallymark/pmf.Atom]", of_decide_eq_true (by kernel_rfl), Tryz.func116.trans (congrArg some (by kernel_rfl))⟩
 f27 := ⟨"slices.partitionCmpFunc[tallymark/pmf.Atom]", of_decide_eq_true (by kernel_rfl), Tryz.func117.trans (congrArg some (by kernel_rfl))⟩
 f28:=Tryz.func118.trans (congrArg some (by kernel_rfl))
 f29:=Tryz.func119.trans (congrArg some (by kernel_rfl))
 f46 := ⟨"slices.siftDownCmpFunc[tallymark/pmf.Atom]", of_decide_eq_true (by kernel_rfl), Tryz.func134.trans (congrArg some (by kernel_rfl))⟩
 f47:=Tryz.func135.trans (congrArg some (by kernel_rfl))
 f48:=Tryz.func136.trans (congrArg some (by kernel_rfl))
 f49 := ⟨"slices.medianAdjacentCmpFunc[tallymark/pmf.Atom]", of_decide_eq_true (by kernel_rfl), Tryz.func137.trans (congrArg some (by kernel_rfl))⟩
 f50 := ⟨"slices.medianCmpFunc[tallymark/pmf.Atom]", of_decide_eq_true (by kernel_rfl), Tryz.func138.trans (congrArg some (by kernel_rfl))⟩
 f57 := ⟨"slices.order2CmpFunc[tallymark/pmf.Atom]", of_decide_eq_true (by kernel_rfl), Tryz.func147.trans (congrArg some (by kernel_rfl))⟩
 t0:=Tryz.underlying0
 a0:=Tryz.isAgg0
 z0:=Tryz.sizeOf0
 v0:=Tryz.zeroValue0
 t3:=Tryz.underlying3
 a3:=Tryz.isAgg3
 z3:=Tryz.sizeOf3
 v3:=Tryz.zeroValue3
 t4:=Tryz.underlying4
 a4:=Tryz.isAgg4
 z4:=Tryz.sizeOf4
 v4:=Tryz.zeroValue4
 t5:=Tryz.underlying5
 a5:=Tryz.isAgg5
 z5:=Tryz.sizeOf5
 v5:=Tryz.zeroValue5
 t9:=Tryz.underlying9
 a9:=Tryz.isAgg9
 z9:=Tryz.sizeOf9
 v9:=Tryz.zeroValue9
 t22:=Tryz.underlying31
 a22:=Tryz.isAgg31
 z22:=Tryz.sizeOf31
 v22:=Tryz.zeroValue31
 t25:=Tryz.underlying86
 a25:=Tryz.isAgg86
 z25:=Tryz.sizeOf86
 v25:=Tryz.zeroValue86
 t39:=Tryz.underlying117
 a39:=Tryz.isAgg117
 z39:=Tryz.sizeOf117
 v39:=Tryz.zeroValue117
 t45:=Tryz.underlying151
 a45:=Tryz.isAgg151
 z45:=Tryz.sizeOf151
 v45:=Tryz.zeroValue151
 t46:=Tryz.underlying152
 a46:=Tryz.isAgg152
 z46:=Tryz.sizeOf152
 v46:=Tryz.zeroValue152
 t50:=Tryz.underlying156
 a50:=Tryz.isAgg156
 z50:=Tryz.sizeOf156
 v50:=Tryz.zeroValue156
 t53:=Tryz.underlying159
 a53:=Tryz.isAgg159
 z53:=Tryz.sizeOf159
 v53:=Tryz.zeroValue159
 t55:=Tryz.underlying105
 a55:=Tryz.isAgg105
 z55:=Tryz.sizeOf105
 v55:=Tryz.zeroValue105
 t66:=Tryz.underlying172
 a66:=Tryz.isAgg172
 z66:=Tryz.sizeOf172
 v66:=Tryz.zeroValue172
 t70:=Tryz.underlying176
 a70:=Tryz.isAgg176
 z70:=Tryz.sizeOf176
 v70:=Tryz.zeroValue176
 t76:=Tryz.underlying185
 a76:=Tryz.isAgg185
 z76:=Tryz.sizeOf185
 v76:=Tryz.zeroValue185
 t77:=Tryz.underlying186
 a77:=Tryz.isAgg186
 z77:=Tryz.sizeOf186
 v77:=Tryz.zeroValue186
theorem aggAtom:∀w,(Go.isAgg (renA.t 24)).run Tryz.prog w = .ok true w:=Tryz.isAgg48
theorem sizeAtom:∀w,(Go.sizeOf (renA.t 24)).run Tryz.prog w = .ok 6 w:=Tryz.sizeOf48
end
section
open Go.RowKit
end
section
open Go.RowKit
end
section

end
section
open Go.RowKit
def tsD (y t:Nat) (f:Bool):D:=.agg [.int .i64 y,.int .i64 t,.bool f]
end
section
open Go.RowKit
def tpD (a b:Int):D:=.agg [.int .i64 a,.int .i64 b]

def GoodT (a b:Nat):Prop:=1≤a∧a≤1023∧b≤20
def WellT (a b y t:Nat) (f:Bool):Prop:=y≤a∧t≤b∧(f=true→t=b)

theorem o_qm {a b:Nat} (h:GoodT a b):Eqn Tryz.prog o_de [.d (tpD a b)] [] (.d (.int .i64 0)) []:=by
 refine Eqn.pure o_dg Plain.ok ?_
 obtain ⟨h1,h2,h3⟩:=h
 have g1:¬(a:Int)<1:=by omega
 have g2:¬(1023:Int)<a:=by omega
 have g3:¬(b:Int)<0:=by omega
 have g4:¬(20:Int)<b:=by omega
 refine cc (c':=?z108) ?_ ?_
 case refine_1=>cbv<;>exact rfl
 try simp only [tpD]
 refine G1 (fs g1 (fs g2 (fs g3 g4))) ?_;try with_reducible exact tt
 refine AW.cond rfl (fun h=>?_) (fun h=>?_)
 ·simp at h
 ·refine G0 ?_;try with_reducible exact tt
end
section
open Go.RowKit
end
section
open Go.RowKit
def GoodC (k a w:Nat):Prop:=(k=1∧1≤a∧a≤4096∧bitsN (a+1)*(2^w-1)≤8192∨k=2∧a≤8∨k=3∧1≤a∧a≤5)∧1≤w∧w≤10
theorem o_qn {k a w:Nat} (h:GoodS k a w):GoodC k a w:=by
 obtain ⟨h,h1,h2⟩:=h
 refine ⟨?_,h1,by omega⟩
 rcases h with ⟨rfl,h3,h4⟩ | ⟨rfl,h3⟩ | ⟨rfl,h3,h4⟩
 ·refine .inl ⟨rfl,h3,by omega,?_⟩
  have ha:a=1∨a=2∨a=3∨a=4:=by omega
  have hw:w=1∨w=2∨w=3∨w=4:=by omega
  rcases ha with rfl | rfl | rfl | rfl<;>rcases hw with rfl | rfl | rfl | rfl<;>decide
 ·exact .inr (.inl ⟨rfl,by omega⟩)
 ·exact .inr (.inr ⟨rfl,h3,by omega⟩)
theorem o_qo {k a w:Nat} (h:GoodC k a w):Eqn Tryz.prog o_dh [.d (parD k a w)] [] (.d (.int .i64 0)) []:=by
 obtain ⟨h,h1,h2⟩:=h
 rcases h with ⟨rfl,h3,h4,h5⟩ | ⟨rfl,h3⟩ | ⟨rfl,h3,h4⟩
 ·exact o_q2 a w h3 h4 h1 h2 h5
 ·exact o_q4 a w h3 h1 h2
 ·exact o_q5 a w h3 h4 h1 h2
def GoodR (k a b:Nat):Prop:=k=4∧GoodT a b∨k≠4∧GoodC k a b
def WellR (k a b y t:Nat) (f:Bool):Prop:=k=4∧WellT a b y t f∨k≠4∧t=0∧y≤2^b-1∧(f=true→y=2^b-1)
end
section

end
section
open Go.RowKit
end
section
open Go.RowKit
end
section
open Go.RowKit
end
section
open Go.RowKit
def wellTB (a b y t:Nat) (f:Bool):Bool:=decide (y≤a)&&(decide (t≤b)&&(!f || t==b))
theorem o_qp {a b:Nat} (h:GoodT a b) (y t:Nat) (f:Bool):Eqn Tryz.prog o_b8 [.d (tpD a b),.d (tsD y t f)] [] (.d (.bool (wellTB a b y t f))) []:=by
 refine Eqn.pure o_ba Plain.ok ?_
 have hc:=o_qm h
 have g3:(0:Int)≤y:=by omega
 have g4:(0:Int)≤t:=by omega
 refine cc (c':=?z110) ?_ ?_
 case refine_1=>cbv<;>exact rfl
 try simp only [tpD,tsD,wellTB] at hc ⊢
 by_cases h1:y≤a
 ·have h1':(y:Int)≤a:=by omega
  by_cases h2:t≤b
  ·have h2':(t:Int)≤b:=by omega
   cases f with
   | true =>
    by_cases h3:t=b
    ·subst h3
     refine G1 (fs g3 (fs g4 (fs h1 (fs h1' (fs h2 h2'))))) ?_;try with_reducible exact tt
     refine CallS.pu (hc) (R1 (fs g3 (fs g4 (fs h1 (fs h1' (fs h2 h2'))))) ?_);try with_reducible exact tt
    ·have h3':¬(t:Int)=b:=by omega
     refine G1 (fs g3 (fs g4 (fs h1 (fs h1' (fs h2 (fs h2' (fs h3 h3'))))))) ?_;try with_reducible exact tt
     refine CallS.pu (hc) (R1 (fs g3 (fs g4 (fs h1 (fs h1' (fs h2 (fs h2' (fs h3 h3'))))))) ?_);try with_reducible exact tt
     exact Sub1.bool (by rw [Bool.eq_iff_iff];simp;omega)
   | false =>
    refine G1 (fs g3 (fs g4 (fs h1 (fs h1' (fs h2 h2'))))) ?_;try with_reducible exact tt
    refine CallS.pu (hc) (R1 (fs g3 (fs g4 (fs h1 (fs h1' (fs h2 h2'))))) ?_);try with_reducible exact tt
  ·have h2':¬(t:Int)≤b:=by omega
   refine G1 (fs g3 (fs g4 (fs h1 (fs h1' (fs h2 h2'))))) ?_;try with_reducible exact tt
   refine CallS.pu (hc) (R1 (fs g3 (fs g4 (fs h1 (fs h1' (fs h2 h2'))))) ?_);try with_reducible exact tt
 ·have h1':¬(y:Int)≤a:=by omega
  refine G1 (fs g3 (fs g4 (fs h1 h1'))) ?_;try with_reducible exact tt
  refine CallS.pu (hc) (R1 (fs g3 (fs g4 (fs h1 h1'))) ?_);try with_reducible exact tt

theorem o_qq (k a b:Int):Eqn Tryz.prog o_b5 [.d (parD k a b)] [] (.d (tpD a b)) []:=by
 refine Eqn.pure o_b7 Plain.ok ?_
 refine cc (c':=?z111) ?_ ?_
 case refine_1=>cbv<;>exact rfl
 try simp only [parD,tpD]
 refine G0 ?_;try with_reducible exact tt
theorem o_qr (k a b:Int):Eqn Tryz.prog o_be [.d (parD k a b)] [] (.d (parD k a b)) []:=by
 refine Eqn.pure o_bg Plain.ok ?_
 refine cc (c':=?z112) ?_ ?_
 case refine_1=>cbv<;>exact rfl
 try simp only [parD]
 refine G0 ?_;try with_reducible exact tt
theorem o_qs (y t:Int) (f:Bool):Eqn Tryz.prog o_bb [.d (.agg [.int .i64 y,.int .i64 t,.bool f])] [] (.d (.agg [.int .i64 y,.int .i64 t,.bool f])) []:=by
 refine Eqn.pure o_bd Plain.ok ?_
 refine cc (c':=?z113) ?_ ?_
 case refine_1=>cbv<;>exact rfl
 refine G0 ?_;try with_reducible exact tt
theorem o_qt {k a b:Nat} (h:GoodR k a b):Eqn Tryz.prog o_ab [.d (parD k a b)] [] (.d (.int .i64 0)) []:=by
 refine Eqn.pure o_ad Plain.ok ?_
 rcases h with ⟨rfl,h⟩ | ⟨hk,h⟩
 ·have h1:=o_qq 4 a b
  have h2:=o_qm h
  refine cc (c':=?z114) ?_ ?_
  case refine_1=>cbv<;>exact rfl
  try simp only [parD,tpD] at h1 h2 ⊢
  refine G0 ?_;try with_reducible exact tt
  refine AW.cond rfl (fun h=>?_) (fun h=>?_)
  ·refine G0 ?_;try with_reducible exact tt
   refine CallS.pu (h1) (R0 ?_);try with_reducible exact tt
   refine CallS.pu (h2) (R0 ?_);try with_reducible exact tt
  ·simp at h
 ·have h1:=o_qr k a b
  have h2:=o_qo h
  have hk':¬(k:Int)=4:=by omega
  refine cc (c':=?z115) ?_ ?_
  case refine_1=>cbv<;>exact rfl
  try simp only [parD] at h1 h2 ⊢
  refine G1 (fs hk hk') ?_;try with_reducible exact tt
  refine AW.cond rfl (fun h=>?_) (fun h=>?_)
  ·simp [hk'] at h
  ·refine G0 ?_;try with_reducible exact tt
   refine CallS.pu (h1) (R0 ?_);try with_reducible exact tt
   refine CallS.pu (h2) (R0 ?_);try with_reducible exact tt

def wellRB (k a b y t:Nat) (f:Bool):Bool:=if k=4 then wellTB a b y t f else (t==0)&&(decide (y≤2^b-1)&&(!f || y==2^b-1))
theorem o_qu {k a b y t:Nat} {f:Bool}:wellRB k a b y t f=true↔WellR k a b y t f:=by
 unfold wellRB WellR wellTB WellT
 by_cases hk:k=4
 ·subst hk
  simp
  intro _ _
  cases f<;>simp
 ·simp [hk]
  intro _ _
  cases f<;>simp

theorem o_qv {k a b:Nat} (h:GoodR k a b) (y t:Nat) (f:Bool):Eqn Tryz.prog o_8v [.d (parD k a b),.d (tsD y t f)] [] (.d (.bool (wellRB k a b y t f))) []:=by
 refine Eqn.pure o_8x Plain.ok ?_
 have hc:=o_qt h
 rcases h with ⟨rfl,h⟩ | ⟨hk,h⟩
 ·have h1:=o_qq 4 a b
  have h2:=o_qp h y t f
  have h3:=o_qs y t f
  refine cc (c':=?z116) ?_ ?_
  case refine_1=>cbv<;>exact rfl
  try simp only [parD,tpD,tsD,wellRB,if_true] at hc h1 h2 h3 ⊢
  generalize wellTB a b y t f=w at *
  refine G0 ?_;try with_reducible exact tt
  refine CallS.pu (hc) (R0 ?_);try with_reducible exact tt
  refine AW.cond rfl (fun h=>?_) (fun h=>?_)
  ·simp at h
  refine G0 ?_;try with_reducible exact tt
  refine AW.cond rfl (fun h=>?_) (fun h=>?_)
  ·refine G0 ?_;try with_reducible exact tt
   refine CallS.pu (h1) (R0 ?_);try with_reducible exact tt
   refine CallS.pu (h3) (R0 ?_);try with_reducible exact tt
   refine CallS.pu (h2) (R0 ?_);try with_reducible exact tt
  ·simp at h
 ·have h1:=o_qr k a b
  have h2:=o_q6 k a b h.2.2 (o_qo h)
  have hk':¬(k:Int)=4:=by omega
  have g:(0:Int)≤y:=by omega
  refine cc (c':=?z117) ?_ ?_
  case refine_1=>cbv<;>exact rfl
  try simp only [parD,tsD,wellRB,if_neg hk] at hc h1 h2 ⊢
  generalize 2^b-1=S at *
  by_cases ht:t=0
  ·subst ht
   by_cases hy:y≤S
   ·have hy':(y:Int)≤S:=by omega
    cases f with
    | true =>
     by_cases hs:y=S
     ·subst hs
      refine G1 (fs g (fs hk hk')) ?_;try with_reducible exact tt
      refine CallS.pu (hc) (R1 (fs g (fs hk hk')) ?_);try with_reducible exact tt
      refine AW.cond rfl (fun h=>?_) (fun h=>?_)
      ·simp at h
      refine G1 (fs g (fs hk hk')) ?_;try with_reducible exact tt
      refine AW.cond rfl (fun h=>?_) (fun h=>?_)
      ·simp [hk'] at h
      refine G1 g ?_;try with_reducible exact tt
      refine CallS.pu (h1) (R1 g ?_);try with_reducible exact tt
      refine CallS.pu (h2) (R1 g ?_);try with_reducible exact tt
     ·have hs':¬(y:Int)=S:=by omega
      refine G1 (fs g (fs hk (fs hk' (fs hy (fs hy' (fs hs hs')))))) ?_;try with_reducible exact tt
      refine CallS.pu (hc) (R1 (fs g (fs hk (fs hk' (fs hy (fs hy' (fs hs hs')))))) ?_);try with_reducible exact tt
      refine AW.cond rfl (fun h=>?_) (fun h=>?_)
      ·simp at h
      refine G1 (fs g (fs hk (fs hk' (fs hy (fs hy' (fs hs hs')))))) ?_;try with_reducible exact tt
      refine AW.cond rfl (fun h=>?_) (fun h=>?_)
      ·simp [hk'] at h
      refine G1 g ?_;try with_reducible exact tt
      refine CallS.pu (h1) (R1 g ?_);try with_reducible exact tt
      refine CallS.pu (h2) (R1 (fs g (fs hy (fs hy' (fs hs hs')))) ?_);try with_reducible exact tt
      exact Sub1.bool (by rw [Bool.eq_iff_iff];simp;omega)
    | false =>
     refine G1 (fs g (fs hk (fs hk' (fs hy hy')))) ?_;try with_reducible exact tt
     refine CallS.pu (hc) (R1 (fs g (fs hk (fs hk' (fs hy hy')))) ?_);try with_reducible exact tt
     refine AW.cond rfl (fun h=>?_) (fun h=>?_)
     ·simp at h
     refine G1 (fs g (fs hk (fs hk' (fs hy hy')))) ?_;try with_reducible exact tt
     refine AW.cond rfl (fun h=>?_) (fun h=>?_)
     ·simp [hk'] at h
     refine G1 g ?_;try with_reducible exact tt
     refine CallS.pu (h1) (R1 g ?_);try with_reducible exact tt
     refine CallS.pu (h2) (R1 (fs g (fs hy hy')) ?_);try with_reducible exact tt
   ·have hy':¬(y:Int)≤S:=by omega
    refine G1 (fs g (fs hk (fs hk' (fs hy hy')))) ?_;try with_reducible exact tt
    refine CallS.pu (hc) (R1 (fs g (fs hk (fs hk' (fs hy hy')))) ?_);try with_reducible exact tt
    refine AW.cond rfl (fun h=>?_) (fun h=>?_)
    ·simp at h
    refine G1 (fs g (fs hk (fs hk' (fs hy hy')))) ?_;try with_reducible exact tt
    refine AW.cond rfl (fun h=>?_) (fun h=>?_)
    ·simp [hk'] at h
    refine G1 g ?_;try with_reducible exact tt
    refine CallS.pu (h1) (R1 g ?_);try with_reducible exact tt
    refine CallS.pu (h2) (R1 (fs g (fs hy hy')) ?_);try with_reducible exact tt
  ·have ht':¬(t:Int)=0:=by omega
   refine G1 (fs g (fs hk (fs hk' (fs ht ht')))) ?_;try with_reducible exact tt
   refine CallS.pu (hc) (R1 (fs g (fs hk (fs hk' (fs ht ht')))) ?_);try with_reducible exact tt
   refine AW.cond rfl (fun h=>?_) (fun h=>?_)
   ·simp at h
   refine G1 (fs g (fs hk (fs hk' (fs ht ht')))) ?_;try with_reducible exact tt
   refine AW.cond rfl (fun h=>?_) (fun h=>?_)
   ·simp [hk'] at h
   refine G1 g ?_;try with_reducible exact tt
   refine CallS.pu (h1) (R1 g ?_);try with_reducible exact tt
   refine CallS.pu (h2) (R1 (fs g (fs ht ht')) ?_);try with_reducible exact tt
   exact Sub1.bool (by simp [ht])
end
section
def dsmall (ws:List Nat):Prop:=∀x∈ws,x<10000

theorem dsmall.take {ws:List Nat} (h:dsmall ws) (n:Nat):dsmall (ws.take n):=fun x hx=>h x (List.mem_of_mem_take hx)

theorem dsmall.getD {l:List Nat} (h:dsmall l) (n:Nat):l.getD n 0<10000:=by
 by_cases hn:n<l.length
 ·rw [List.getD,List.getElem?_eq_getElem hn];exact h _ (List.getElem_mem hn)
 ·simp [List.getD,List.getElem?_eq_none (show l.length≤n by omega)]
end
section
open Go.RowKit
end
section
open Go.RowKit
end
section

end
section
open Go.RowKit
end
section
open Go.RowKit
end
section
open Go.RowKit
end
section
open Go.RowKit
end
section
open Go.RowKit
end
section
open Go.RowKit
theorem o_qw (n s:Nat) (ds:List D) (l:List D):V.frzs n s ds (l.map V.d)=l.map V.d:=by
 rw [o_59];simp [V.frz]
end
section
open Go.RowKit
attribute [simp] o_qw o_61 o_62
@[simp] theorem o_qx (θ:Nat→Nat):∀l k:List V,V.rens θ (l++k)=V.rens θ l++V.rens θ k
 | [],k=>by simp [V.rens]
 | x::l,k=>by simp [V.rens,o_qx θ l k]
@[simp] theorem o_qy (n:Nat):∀l k:List V,V.lowl n (l++k)=(V.lowl n l&&V.lowl n k)
 | [],k=>by simp [V.lowl]
 | x::l,k=>by simp [V.lowl,o_qy n l k,Bool.and_assoc]
end
section
open Go.RowKit
end
section
open Go.RowKit
end
section
open Go.RowKit
end
section
def padN:Nat→Nat→List Nat
 | 0,_=>[]
 | w+1,n=>padN w (n/10)++[48+n%10]
theorem o_qz:∀w n,(padN w n).length=w
 | 0,_=>rfl
 | w+1,n=>by rw [padN,List.length_append,o_qz w];rfl
theorem o_r0 (a:Nat):∀b n,padN (a+b) n=padN a (n/10^b)++padN b n
 | 0,n=>by simp [padN]
 | b+1,n=>by
  rw [←Nat.add_assoc,padN,padN,o_r0 a b,Nat.div_div_eq_div_mul,Nat.pow_succ,Nat.mul_comm 10,List.append_assoc]
theorem o_r1 (u:Nat):padN 4 u=[48+u/1000%10,48+u/100%10,48+u/10%10,48+u%10]:=by
 simp [padN,Nat.div_div_eq_div_mul]
theorem o_r2 (u:Nat):padN 2 u=[48+u/10%10,48+u%10]:=by simp [padN]
theorem o_r3:∀w,padN w 0=List.replicate w 48
 | 0=>rfl
 | w+1=>by rw [padN,Nat.zero_div,o_r3 w,←List.replicate_succ']
theorem o_r4 (a b n:Nat) (h:n<10^b):padN (a+b) n=List.replicate a 48++padN b n:=by
 rw [o_r0,Nat.div_eq_of_lt h,o_r3]
theorem o_r5:∀w n,padN w (n%10^w)=padN w n
 | 0,_=>rfl
 | w+1,n=>by
  rw [padN,padN]
  have e1:n%10^(w+1)/10=n/10%10^w:=by rw [Nat.pow_succ,Nat.mul_comm,Nat.mod_mul_right_div_self]
  have e2:n%10^(w+1)%10=n%10:=by rw [Nat.pow_succ,Nat.mul_comm,Nat.mod_mul_right_mod]
  rw [e1,e2,o_r5 w]
def ndig (n:Nat):Nat:=if n<10 then 1 else ndig (n/10)+1
termination_by n
decreasing_by omega
theorem o_r6:∀(k n:Nat),10^k≤n→n<10^(k+1)→ndig n=k+1
 | 0,n,_,h2=>by rw [ndig,if_pos (by simpa using h2)]
 | k+1,n,h1,h2=>by
  have h10:10≤n:=Nat.le_trans (by rw [Nat.pow_succ];have:0<10^k:=Nat.pow_pos (by decide);omega) h1
  rw [ndig,if_neg (by omega),o_r6 k (n/10) (by rw [Nat.pow_succ] at h1;omega) (by rw [Nat.pow_succ] at h2;omega)]
theorem o_r7 (n:Nat):0<ndig n:=by rw [ndig];split<;>omega
theorem o_r8:∀n:Nat,n<10^ndig n:=by
 intro n
 induction n using Nat.strongRecOn with
 | _ n ih =>
  rw [ndig]
  split
  ·simpa using ‹n<10›
  ·have:=ih (n/10) (by omega)
   rw [Nat.pow_succ];omega
theorem o_r9:∀(n k:Nat),n<10^k→0<k→ndig n≤k:=by
 intro n
 induction n using Nat.strongRecOn with
 | _ n ih =>
  intro k h hk
  rw [ndig]
  split
  ·exact hk
  ·obtain ⟨j,rfl⟩:∃j,k=j+1:=⟨k-1,by omega⟩
   rcases Nat.eq_zero_or_pos j with rfl | hj
   ·simp at h;omega
   ·have:=ih (n/10) (by omega) j (by rw [Nat.pow_succ] at h;omega) hj
    omega
theorem o_ra:∀(k n:Nat),0<n/10^k→ndig n=ndig (n/10^k)+k
 | 0,n,_=>by simp
 | k+1,n,h=>by
  have h1:n/10^(k+1)=n/10/10^k:=by rw [Nat.pow_succ,Nat.mul_comm,Nat.div_div_eq_div_mul]
  have h2:10≤n:=by
   rcases Nat.lt_or_ge n 10 with h3 | h3
   ·rw [h1,show n/10=0 by omega,Nat.zero_div] at h;omega
   ·exact h3
  rw [ndig,if_neg (by omega),o_ra k (n/10) (by rw [←h1];exact h),h1];omega
def decN (n:Nat):List Nat:=padN (ndig n) n
theorem o_rb (k n:Nat) (h:0<n/10^k):decN n=decN (n/10^k)++padN k n:=by
 rw [decN,o_ra k n h,o_r0,decN]
theorem o_rc (n k:Nat) (h:n<10^k) (hk:0<k):List.replicate (k-(decN n).length) 48++decN n=padN k n:=by
 have h1:=o_r9 n k h hk
 rw [decN,o_qz,←o_r4 _ _ _ (o_r8 n),show k-ndig n+ndig n=k by omega]
def bst (l:List Nat):ByteArray:=⟨(l.map UInt8.ofNat).toArray⟩
def txt (n:Nat):ByteArray:=bst (decN n)
theorem o_rd (a b:List Nat):bst a++bst b=bst (a++b):=by
 unfold bst
 apply ByteArray.ext
 rw [ByteArray.data_append]
 simp
@[simp] theorem o_re (l:List Nat):(bst l).size=l.length:=by
 show ((l.map UInt8.ofNat).toArray).size=_
 simp
theorem o_rf:bst []=⟨#[]⟩:=rfl
theorem o_rg (n:Nat):(decN n).length=ndig n:=o_qz _ _
theorem o_rh (n b:Nat) (h0:2^(b-1)≤n) (h1:n<2^b) (hb:0<b) (hb2:b≤64):b*78913/262144≤19∧ndig n=b*78913/262144+if 10^(b*78913/262144)≤n then 1 else 0:=by
 have key:∀b∈List.range 65,b*78913/262144≤19∧2^b≤10^(b*78913/262144+1)∧(b*78913/262144=0∨10^(b*78913/262144-1)≤2^(b-1)):=by decide
 obtain ⟨k1,k2,k3⟩:=key b (by simp;omega)
 refine ⟨k1,?_⟩
 generalize b*78913/262144=k at *
 by_cases h:10^k≤n
 ·rw [if_pos h,o_r6 k n h (Nat.lt_of_lt_of_le h1 k2)]
 ·rw [if_neg h]
  rcases k3 with k3 | k3
  ·subst k3
   have:0<2^(b-1):=Nat.pow_pos (by decide)
   simp at h;omega
  ·have hk:0<k:=by
    rcases Nat.eq_zero_or_pos k with rfl | hk
    ·have:0<2^(b-1):=Nat.pow_pos (by decide)
     simp at h;omega
    ·exact hk
   obtain ⟨j,rfl⟩:∃j,k=j+1:=⟨k-1,by omega⟩
   rw [o_r6 j n (by simpa using Nat.le_trans k3 h0) (by omega)]
theorem o_ri (A R:List Nat) (m x:Nat):(A++(List.replicate (m+1) 0++R)).set (A.length+m) x=A++(List.replicate m 0++x::R):=by
 rw [List.set_append_right _ _ (by omega),Nat.add_sub_cancel_left,List.set_append_left _ _ (by simp),List.replicate_succ',List.set_append_right _ _ (by simp)]
 simp
end
section
open Go.RowKit
theorem o_rj (b:Bool):Eqn Tryz.prog o_g5 [.d (.bool b)] [] (.d (.int .i64 (if b then 1 else 0))) []:=by
 refine Eqn.pure o_g7 Plain.ok ?_
 refine cc (c':=?z121) ?_ ?_
 case refine_1=>cbv<;>exact rfl
 cases b
 ·refine A00 ?_;try with_reducible exact tt
 ·refine A00 ?_;try with_reducible exact tt
theorem o_rk (b:Nat) (hb:b≤64):Eqn Tryz.prog o_g2 [.d (.int .i64 b)] [] (.d (.int .i64 (b*78913/262144:Nat))) []:=by
 refine Eqn.pure o_g4 Plain.ok ?_
 refine cc (c':=?z122) ?_ ?_
 case refine_1=>cbv<;>exact rfl
 have e1:IntKind.i64.wrap ((b:Int)*78913)=((b*78913:Nat):Int):=by rw [w64 (by omega) (by omega)];omega
 have e2:((b*78913:Nat):Int)/262144=((b*78913/262144:Nat):Int):=by omega
 refine A10 (fs e1 e2) ?_;try with_reducible exact tt
def pow10V:List D:=[.int .u64 1,.int .u64 10,.int .u64 100,.int .u64 1000,.int .u64 10000,.int .u64 100000,.int .u64 1000000,.int .u64 10000000,.int .u64 100000000,.int .u64 1000000000,.int .u64 10000000000,.int .u64 100000000000,.int .u64 1000000000000,.int .u64 10000000000000,.int .u64 100000000000000,.int .u64 1000000000000000,.int .u64 10000000000000000,.int .u64 100000000000000000,.int .u64 1000000000000000000,.int .u64 10000000000000000000]
theorem o_rl:pow10V.length=20:=rfl
theorem o_rm:pow10V=(List.range 20).map fun k:Nat=>D.int .u64 ((10^k:Nat):Int):=by kernel_rfl
theorem o_rn:∀(k:Nat) (h:k<pow10V.length),pow10V[k]'h=D.int .u64 ((10^k:Nat):Int):=by
 rw [o_rm]
 intro k h
 simp
theorem o_ro (n:Nat) (h0:0<n) (h1:n<18446744073709551616):Eqn Tryz.prog o_fk [.d (.int .u64 n)] [] (.d (.int .i64 (ndig n:Nat))) []:=by
 refine Eqn.pure o_fm Plain.ok ?_
 have hb:bitsN n≤64:=o_ko (by omega)
 have hl:=o_l6 n h1
 have hlt:=o_kn n
 have hb0:0<bitsN n:=by
  rcases Nat.eq_zero_or_pos (bitsN n) with h | h
  ·rw [h] at hlt;simp at hlt;omega
  ·exact h
 have hge:2^(bitsN n-1)≤n:=by
  rcases Nat.lt_or_ge n (2^(bitsN n-1)) with h | h
  ·have:=o_ko h;omega
  ·exact h
 obtain ⟨g1,g2⟩:=o_rh n (bitsN n) hge hlt hb0 hb
 have hlo:=o_rk (bitsN n) hb
 generalize bitsN n*78913/262144=k at *
 have hbo:=o_rj (decide (10^k≤n))
 have hgt:=o_rn k
 obtain ⟨t,ht⟩:∃t,t=10^k:=⟨_,rfl⟩
 rw [←ht] at hgt g2 hbo
 have hkl:k<20:=by omega
 have hki:(k:Int)<20:=by omega
 have hkl2:k<pow10V.length:=by rw [o_rl];omega
 have hge2:decide ((t:Int)≤n)=decide (t≤n):=by rw [decide_eq_decide];omega
 refine cc (c':=?z123) ?_ ?_
 case refine_1=>cbv<;>exact rfl
 rw [show [D.int .u64 1,.int .u64 10,.int .u64 100,.int .u64 1000,.int .u64 10000,.int .u64 100000,.int .u64 1000000,.int .u64 10000000,.int .u64 100000000,.int .u64 1000000000,.int .u64 10000000000,.int .u64 100000000000,.int .u64 1000000000000,.int .u64 10000000000000,.int .u64 100000000000000,.int .u64 1000000000000000,.int .u64 10000000000000000,.int .u64 100000000000000000,.int .u64 1000000000000000000,.int .u64 10000000000000000000]=pow10V from rfl]
 generalize pow10V=PV at *
 refine A00 ?_;try with_reducible exact tt
 refine CallS.pu (hl) (R0 ?_);try with_reducible exact tt
 refine CallS.pu (hlo) (R1 (fs hkl (fs hki (fs hkl2 (fs hgt hge2)))) ?_);try with_reducible exact tt
 refine CallS.pu (hbo) (R0 ?_);try with_reducible exact tt
 refine Sub1.int ?_
 rw [g2]
 by_cases h:t≤n
 ·simp only [h,if_true];omega
 ·simp only [h,if_false];omega
end
section
theorem u32N (x:Nat) (h:x<4294967296):IntKind.u32.wrap (x:Int)=x:=by rw [IntKind.wrap_u32];omega
theorem o_rp (u k:Nat) (h0:0<k) (h:k≤4294967296):IntKind.u32.wrap ((u:Int).tmod k)=((u%k:Nat):Int):=by
 rw [Int.tmod_eq_emod_of_nonneg (by omega),←Int.natCast_emod]
 exact u32N _ (Nat.lt_of_lt_of_le (Nat.mod_lt _ h0) h)
theorem o_rq (x k:Nat) (h:x<4294967296):IntKind.u32.wrap ((x:Int)/k)=((x/k:Nat):Int):=by
 rw [←Int.natCast_ediv]
 exact u32N _ (Nat.lt_of_le_of_lt (Nat.div_le_self _ _) h)
theorem o_rr (x k:Nat) (h:x<18446744073709551616):IntKind.u64.wrap ((x:Int)/k)=((x/k:Nat):Int):=by
 rw [←Int.natCast_ediv]
 have:=Nat.div_le_self x k
 generalize x/k=q at *
 rw [IntKind.wrap_u64];omega
theorem modN (x k:Nat):(x:Int).tmod k=((x%k:Nat):Int):=by rw [Int.tmod_eq_emod_of_nonneg (by omega),←Int.natCast_emod]
structure D4 (x a b:Nat):Prop where
 da:IntKind.u32.wrap ((x:Int)/100)=a
 mb:(x:Int).tmod 100=b
 la:a<100
 lb:b<100
 dig:∀u,padN 4 (u*10000+x)=[48+a/10,48+a%10,48+b/10,48+b%10]
theorem d4 (x:Nat) (hx:x<10000):∃a b,D4 x a b:=by
 refine ⟨x/100,x%100,o_rq x 100 (by omega),modN x 100,by omega,by omega,fun u=>?_⟩
 rw [o_r1]
 congr 1
 ·omega
 congr 1
 ·omega
 congr 1
 ·omega
 congr 1
 omega
structure D8 (u x5 x6 x7:Nat):Prop where
 m5:IntKind.u32.wrap ((u:Int).tmod 100000000)=x5
 d6:IntKind.u32.wrap ((x5:Int)/10000)=x6
 m7:(x5:Int).tmod 10000=x7
 l6:x6<10000
 l7:x7<10000
 dig:padN 8 u=padN 4 (u/100000000*10000+x6)++padN 4 (u/10000*10000+x7)
theorem d8 (u:Nat):∃x5 x6 x7,D8 u x5 x6 x7:=by
 refine ⟨u%100000000,u%100000000/10000,u%100000000%10000,o_rp u 100000000 (by omega) (by omega),o_rq _ 10000 (by omega),modN _ 10000,by omega,by omega,?_⟩
 rw [show (8:Nat)=4+4 from rfl,o_r0,show u/100000000*10000+u%100000000/10000=u/10000 by omega,show u/10000*10000+u%100000000%10000=u by omega]
structure Lk (l:ByteArray) (x y z c e:Nat):Prop where
 wy:IntKind.u32.wrap ((x:Int)*2)=y
 wz:IntKind.u32.wrap ((y:Int)+1)=z
 gy:∀h,(l.data[y]'h).toNat=c
 gz:∀h,(l.data[z]'h).toNat=e
 ny:y<l.size
 nz:z<l.size
 hc:c=48+x/10
 he:e=48+x%10
theorem lk (l:ByteArray) (hl:l.size=200) (h:∀x,x<100→(l.data.toList.getD (x*2) 0).toNat=48+x/10∧(l.data.toList.getD (x*2+1) 0).toNat=48+x%10) (x:Nat) (hx:x<100):∃y z c e,Lk l x y z c e :=
 ⟨x*2,x*2+1,48+x/10,48+x%10,by rw [IntKind.wrap_u32];omega,by rw [IntKind.wrap_u32];omega,fun k=>by have:=(h x hx).1;rw [List.getD_eq_getElem?_getD,List.getElem?_eq_getElem (by simpa using k)] at this;simpa using this,fun k=>by have:=(h x hx).2;rw [List.getD_eq_getElem?_getD,List.getElem?_eq_getElem (by simpa using k)] at this;simpa using this,by omega,by omega,rfl,rfl⟩
theorem w64s (p k m:Nat) (h:p=m+k) (hp:p≤1000):IntKind.i64.wrap ((p:Int)-k)=m:=by rw [IntKind.wrap_i64];omega
end
section
open Go.RowKit
def yV (ws:List Nat):List V:=ws.map fun x:Nat=>V.d (.int .u8 x)
theorem o_rs (ws:List Nat) (j v:Nat):(yV ws).set j (.d (.int .u8 v))=yV (ws.set j v):=by simp [yV,List.map_set]
@[simp] theorem o_rt (ws:List Nat):(yV ws).length=ws.length:=by simp [yV]
@[simp] theorem o_ru (n:Nat) (ws:List Nat):V.lowl n (yV ws)=true:=by induction ws<;>simp_all [yV]
@[simp] theorem o_rv (θ:Nat→Nat) (ws:List Nat):V.rens θ (yV ws)=yV ws:=by induction ws<;>simp_all [yV]
def lit2G (i:Nat):Nat:=(lit2.data.toList.getD i 0).toNat
theorem o_rw:(List.range 100).all (fun x=>lit2G (x*2)==48+x/10&&lit2G (x*2+1)==48+x%10)=true:=by kernel_rfl
theorem o_rx (x:Nat) (h:x<100):lit2G (x*2)=48+x/10∧lit2G (x*2+1)=48+x%10:=by
 have:=List.all_eq_true.1 o_rw x (by simpa using h)
 simpa using this
theorem o_ry (A R:List Nat) (m x:Nat):(yV (A++(List.replicate (m+1) 0++R))).set (A.length+m) (.d (.int .u8 x))=yV (A++(List.replicate m 0++x::R)):=by rw [o_rs,o_ri]

theorem fillF {A:List Nat} {p m:Nat} (h:p=m+1):∀(R:List Nat) (x:Nat),(yV (A++(List.replicate p 0++R))).set (A.length+m) (.d (.int .u8 x))=yV (A++(List.replicate m 0++x::R)):=by
 subst h;exact fun R x=>o_ry A R m x
def qN (n j:Nat):Nat:=n/10^(8*j)
def rN (nd j:Nat):Nat:=nd-8*j
set_option maxHeartbeats 8000000 in
theorem o_rz (n nd:Nat) (hn:n<18446744073709551616) (hnd:nd≤20) (hlt:n<10^nd) (A B:List Nat) (hA:A.length≤1000) :
  Eqn Tryz.prog o_fn [.row 0 A.length nd,.d (.int .u64 n)] [⟨164,yV (A++(List.replicate nd 0++B))⟩] (.tup []) [⟨164,yV (A++(padN nd n++B))⟩]:=by
 refine Eqn.obj1 o_fp (by exact Plain.ok) ⟨by simp,by simp⟩ ?_
 have e2:=o_of
 refine cc (c':=?z124) ?_ ?_
 case refine_1=>cbv<;>exact rfl
 rw [show (⟨#[48,48,48,49,48,50,48,51,48,52,48,53,48,54,48,55,48,56,48,57,49,48,49,49,49,50,49,51,49,52,49,53,49,54,49,55,49,56,49,57,50,48,50,49,50,50,50,51,50,52,50,53,50,54,50,55,50,56,50,57,51,48,51,49,51,50,51,51,51,52,51,53,51,54,51,55,51,56,51,57,52,48,52,49,52,50,52,51,52,52,52,53,52,54,52,55,52,56,52,57,53,48,53,49,53,50,53,51,53,52,53,53,53,54,53,55,53,56,53,57,54,48,54,49,54,50,54,51,54,52,54,53,54,54,54,55,54,56,54,57,55,48,55,49,55,50,55,51,55,52,55,53,55,54,55,55,55,56,55,57,56,48,56,49,56,50,56,51,56,52,56,53,56,54,56,55,56,56,56,57,57,48,57,49,57,50,57,51,57,52,57,53,57,54,57,55,57,56,57,57]⟩:ByteArray)=lit2 from rfl]
 have hl2g:=o_rx
 unfold lit2G at hl2g
 generalize hl2:lit2=l2 at *
 refine A00 ?_;try with_reducible exact tt
 refine AW.loopT (α:=Nat) 1 (fun j=>[(4,.d (.int .i64 (rN nd j:Nat))),(1,.d (.int .u64 (qN n j:Nat)))]) (fun j=>[(0,⟨164,yV (A++(List.replicate (rN nd j) 0++(padN (8*j) n++B)))⟩)]) (fun j=>8*j≤nd) (fun j=>nd-8*j) 0 ?_ ?_ (by simp) ?_ ?_ ?_
 ·simp
 ·simp
 ·simp [rN,qN]
 ·simp [padN,rN,qN]
 intro j hj
 simp
 have hr0:rN nd j=nd-8*j:=rfl
 have hr1:rN nd (j+1)=nd-8*(j+1):=rfl
 have hle:qN n j≤n:=Nat.div_le_self _ _
 have hdd:qN n (j+1)=qN n j/100000000:=by rw [qN,qN,Nat.div_div_eq_div_mul,Nat.mul_succ,Nat.pow_add]
 have hpad:∀w,padN (w+8*j) n=padN w (qN n j)++padN (8*j) n:=fun w=>by rw [o_r0];rfl
 by_cases h8:8≤rN nd j
 ·have h8':(8:Int)≤(rN nd j:Nat):=by omega
  replace hpad:=hpad 8
  rw [show 8+8*j=8*(j+1) by omega] at hpad
  generalize padN (8*j) n=X at *
  generalize qN n j=u at *
  generalize rN nd j=p at *
  have hu32:∀x:Nat,x<4294967296→IntKind.u32.wrap (x:Int)=x:=fun x hx=>by rw [IntKind.wrap_u32];omega
  have hp:p≤1000:=by omega
  have hs1:8*(j+1)≤nd:=by omega
  have hs2:nd-8*(j+1)<nd-8*j:=by omega
  have du:IntKind.u64.wrap ((u:Int)/100000000)=(qN n (j+1):Nat):=by rw [hdd];exact o_rr u 100000000 (by omega)
  generalize hu1:qN n (j+1)=u1 at du hdd ⊢
  have hpn:p≤nd:=by omega
  have hrp:rN nd (j+1)+8=p:=by omega
  clear hr0 hr1 hle
  clear hn hlt
  obtain ⟨p1,hp1⟩:∃m,p=m+1:=⟨p-1,by omega⟩
  have w1:IntKind.i64.wrap ((p:Int)-1)=p1:=w64s p 1 p1 hp1 hp
  obtain ⟨p2,hp2⟩:∃m,p=m+2:=⟨p-2,by omega⟩
  have w2:IntKind.i64.wrap ((p:Int)-2)=p2:=w64s p 2 p2 hp2 hp
  obtain ⟨p3,hp3⟩:∃m,p=m+3:=⟨p-3,by omega⟩
  have w3:IntKind.i64.wrap ((p:Int)-3)=p3:=w64s p 3 p3 hp3 hp
  obtain ⟨p4,hp4⟩:∃m,p=m+4:=⟨p-4,by omega⟩
  have w4:IntKind.i64.wrap ((p:Int)-4)=p4:=w64s p 4 p4 hp4 hp
  obtain ⟨p5,hp5⟩:∃m,p=m+5:=⟨p-5,by omega⟩
  have w5:IntKind.i64.wrap ((p:Int)-5)=p5:=w64s p 5 p5 hp5 hp
  obtain ⟨p6,hp6⟩:∃m,p=m+6:=⟨p-6,by omega⟩
  have w6:IntKind.i64.wrap ((p:Int)-6)=p6:=w64s p 6 p6 hp6 hp
  obtain ⟨p7,hp7⟩:∃m,p=m+7:=⟨p-7,by omega⟩
  have w7:IntKind.i64.wrap ((p:Int)-7)=p7:=w64s p 7 p7 hp7 hp
  obtain ⟨p8,hp8⟩:∃m,p=m+8:=⟨p-8,by omega⟩
  have w8:IntKind.i64.wrap ((p:Int)-8)=p8:=w64s p 8 p8 hp8 hp
  have f1:=fillF (A:=A) (p:=p) (m:=p1) (by omega)
  have f2:=fillF (A:=A) (p:=p1) (m:=p2) (by omega)
  have f3:=fillF (A:=A) (p:=p2) (m:=p3) (by omega)
  have f4:=fillF (A:=A) (p:=p3) (m:=p4) (by omega)
  have f5:=fillF (A:=A) (p:=p4) (m:=p5) (by omega)
  have f6:=fillF (A:=A) (p:=p5) (m:=p6) (by omega)
  have f7:=fillF (A:=A) (p:=p6) (m:=p7) (by omega)
  have f8:=fillF (A:=A) (p:=p7) (m:=p8) (by omega)
  obtain ⟨x5,x6,x7,⟨m5,d6,m7,l6,l7,dig8⟩⟩:=d8 u
  obtain ⟨a7,b7,⟨da7,mb7,la7,lb7,dig7⟩⟩:=d4 x7 l7
  obtain ⟨a6,b6,⟨da6,mb6,la6,lb6,dig6⟩⟩:=d4 x6 l6
  have hlk:=lk l2 e2 hl2g
  obtain ⟨yA,zA,cA,eA,⟨wyA,wzA,gyA,gzA,nyA,nzA,hcA,heA⟩⟩:=hlk b7 lb7
  obtain ⟨yB,zB,cB,eB,⟨wyB,wzB,gyB,gzB,nyB,nzB,hcB,heB⟩⟩:=hlk a7 la7
  obtain ⟨yC,zC,cC,eC,⟨wyC,wzC,gyC,gzC,nyC,nzC,hcC,heC⟩⟩:=hlk b6 lb6
  obtain ⟨yD,zD,cD,eD,⟨wyD,wzD,gyD,gzD,nyD,nzD,hcD,heD⟩⟩:=hlk a6 la6
  rw [dig8,dig6,dig7] at hpad
  rw [←hcA,←heA,←hcB,←heB,←hcC,←heC,←hcD,←heD] at hpad
  clear hcA heA hcB heB hcC heC hcD heD dig8 dig6 dig7 hlk
  repeat (first | refine AW.seq ?_ | refine AW.block ?_)
  refine AW.reg mix ?_
  (simp -implicitDefEqProofs [h8,h8'];try simp (disch:=omega) only [w64,wu64])
  try refine need.of (by first | omega | kernel_rfl) ?_
  refine AW.cond rfl (fun _=>?_) (fun h=>?_)
  rotate_left
  ·simp at h
  refine AW.skip ?_
  simp
  repeat (first | refine AW.seq ?_ | refine AW.block ?_)
  refine AW.reg mix ?_
  (simp -implicitDefEqProofs [m5];try simp (disch:=omega) only [w64,wu64])
  try refine need.of (by first | omega | kernel_rfl) ?_
  repeat (first | refine AW.seq ?_ | refine AW.block ?_)
  refine AW.reg mix ?_
  (simp -implicitDefEqProofs [du];try simp (disch:=omega) only [w64,wu64])
  try refine need.of (by first | omega | kernel_rfl) ?_
  repeat (first | refine AW.seq ?_ | refine AW.block ?_)
  refine AW.reg mix ?_
  (simp -implicitDefEqProofs [d6,m7];try simp (disch:=omega) only [w64,wu64])
  try refine need.of (by first | omega | kernel_rfl) ?_
  repeat (first | refine AW.seq ?_ | refine AW.block ?_)
  refine AW.reg mix ?_
  (simp -implicitDefEqProofs [da7,mb7,wyA,wyB];try simp (disch:=omega) only [w64,wu64])
  try refine need.of (by first | omega | kernel_rfl) ?_
  repeat (first | refine AW.seq ?_ | refine AW.block ?_)
  refine AW.reg mix ?_
  (simp -implicitDefEqProofs [da6,mb6,wyC,wyD];try simp (disch:=omega) only [w64,wu64])
  try refine need.of (by first | omega | kernel_rfl) ?_
  refine G1 (fs w1 (fs w2 (fs w3 (fs w4 (fs w5 (fs w6 (fs w7 (fs w8 (fs wzA (fs wzB (fs wzC (fs wzD (fs gyA (fs gyB (fs gyC (fs gyD (fs gzA (fs gzB (fs gzC (fs gzD (fs nyA (fs nyB (fs nyC (fs nyD (fs nzA (fs nzB (fs nzC (fs nzD (fs f1 (fs f2 (fs f3 (fs f4 (fs f5 (fs f6 (fs f7 f8))))))))))))))))))))))))))))))))))) ?_;try with_reducible exact tt
  refine ⟨j+1,hs1,hs2,⟨Sub1.int (by rw [hu1]),Sub1.int (by omega)⟩,Subs.of ?_⟩
  rw [hpad,show rN nd (j+1)=p8 by omega]
  simp
 ·have h8':¬(8:Int)≤(rN nd j:Nat):=by omega
  have hul:qN n j<10^rN nd j:=by
   rw [qN,hr0,Nat.div_lt_iff_lt_mul (Nat.pow_pos (by decide)),←Nat.pow_add,show nd-8*j+8*j=nd by omega]
   exact hlt
  replace hpad:=hpad (rN nd j)
  rw [show rN nd j+8*j=nd by omega] at hpad
  have hfin:padN nd n++B=padN (rN nd j) (qN n j)++(padN (8*j) n++B):=by rw [hpad,List.append_assoc]
  rw [hfin]
  have hp:rN nd j<8:=by omega
  have hpn:rN nd j≤nd:=by omega
  generalize padN (8*j) n++B=X at *
  generalize qN n j=u at *
  generalize rN nd j=p at *
  have hu7:u<10000000:=Nat.lt_of_lt_of_le hul (Nat.pow_le_pow_right (by decide) (show p≤7 by omega))
  clear hfin hpad hdd hr0 hr1 hle hn hlt hj
  have hlk:=lk l2 e2 hl2g
  have du:IntKind.u32.wrap (u:Int)=u:=u32N u (by omega)
  refine A10 (fs h8 (fs h8' du)) ?_;try with_reducible exact tt
  by_cases h4:4≤p
  ·have h4':(4:Int)≤p:=by omega
   obtain ⟨p4,hp4⟩:∃m,p=m+4:=⟨p-4,by omega⟩
   obtain ⟨p1,hp1⟩:∃m,p=m+1:=⟨p-1,by omega⟩
   obtain ⟨p2,hp2⟩:∃m,p=m+2:=⟨p-2,by omega⟩
   obtain ⟨p3,hp3⟩:∃m,p=m+3:=⟨p-3,by omega⟩
   have w1:IntKind.i64.wrap ((p:Int)-1)=p1:=w64s p 1 p1 hp1 (by omega)
   have w2:IntKind.i64.wrap ((p:Int)-2)=p2:=w64s p 2 p2 hp2 (by omega)
   have w3:IntKind.i64.wrap ((p:Int)-3)=p3:=w64s p 3 p3 hp3 (by omega)
   have w4:IntKind.i64.wrap ((p:Int)-4)=p4:=w64s p 4 p4 hp4 (by omega)
   have f1:=fillF (A:=A) (p:=p) (m:=p1) (by omega)
   have f2:=fillF (A:=A) (p:=p1) (m:=p2) (by omega)
   have f3:=fillF (A:=A) (p:=p2) (m:=p3) (by omega)
   have f4:=fillF (A:=A) (p:=p3) (m:=p4) (by omega)
   have hbU4:u/10000<10^p4:=by rw [Nat.div_lt_iff_lt_mul (by decide),show (10000:Nat)=10^4 from rfl,←Nat.pow_add,←hp4];exact hul
   have hpd4:padN p u=padN p4 (u/10000)++padN 4 (u/10000*10000+u%10000):=by rw [show u/10000*10000+u%10000=u by omega,hp4,o_r0]
   obtain ⟨x4,hx4⟩:∃b,b=u%10000:=⟨_,rfl⟩
   have m4:(u:Int).tmod 10000=x4:=by rw [hx4];exact modN u 10000
   have l4:x4<10000:=by rw [hx4];exact Nat.mod_lt _ (by decide)
   rw [←hx4] at hpd4
   obtain ⟨a7,b7,⟨da7,mb7,la7,lb7,dig7⟩⟩:=d4 x4 l4
   obtain ⟨yA,zA,cA,eA,⟨wyA,wzA,gyA,gzA,nyA,nzA,hcA,heA⟩⟩:=hlk b7 lb7
   obtain ⟨yB,zB,cB,eB,⟨wyB,wzB,gyB,gzB,nyB,nzB,hcB,heB⟩⟩:=hlk a7 la7
   rw [dig7,←hcA,←heA,←hcB,←heB] at hpd4
   have dU4:IntKind.u32.wrap ((u:Int)/10000)=(u/10000:Nat):=o_rq u 10000 (by omega)
   have hU74:u/10000<10000000:=Nat.lt_of_le_of_lt (Nat.div_le_self _ _) hu7
   rw [hpd4]
   clear hx4 hcA heA hcB heB hpd4 dig7
   generalize u/10000=u4 at *
   clear hul hu7 du
   refine A10 (fs h4 (fs h4' (fs m4 (fs dU4 (fs da7 (fs mb7 (fs wyA (fs wyB (fs w1 (fs w2 (fs w3 (fs w4 (fs wzA (fs wzB (fs gyA (fs gyB (fs gzA (fs gzB (fs nyA (fs nyB (fs nzA (fs nzB (fs f1 (fs f2 (fs f3 f4))))))))))))))))))))))))) ?_;try with_reducible exact tt
   by_cases h2:2≤p4
   ·have h2':(2:Int)≤p4:=by omega
    obtain ⟨q1,hq1⟩:∃m,p4=m+1:=⟨p4-1,by omega⟩
    have v1:IntKind.i64.wrap ((p4:Int)-1)=q1:=w64s p4 1 q1 hq1 (by omega)
    obtain ⟨q2,hq2⟩:∃m,p4=m+2:=⟨p4-2,by omega⟩
    have v2:IntKind.i64.wrap ((p4:Int)-2)=q2:=w64s p4 2 q2 hq2 (by omega)
    have t1:=fillF (A:=A) (p:=p4) (m:=q1) (by omega)
    have t2:=fillF (A:=A) (p:=q1) (m:=q2) (by omega)
    have hbW2:u4/100<10^q2:=by rw [Nat.div_lt_iff_lt_mul (by decide),show (100:Nat)=10^2 from rfl,←Nat.pow_add,←hq2];exact hbU4
    have hpd2:padN p4 u4=padN q2 (u4/100)++padN 2 u4:=by rw [hq2,o_r0]
    rw [o_r2] at hpd2
    obtain ⟨b2,hb2⟩:∃b,b=u4%100:=⟨_,rfl⟩
    have mb2:(u4:Int).tmod 100=b2:=by rw [hb2];exact modN u4 100
    have lb2:b2<100:=by rw [hb2];exact Nat.mod_lt _ (by decide)
    obtain ⟨yE,zE,cE,eE,⟨wyE,wzE,gyE,gzE,nyE,nzE,hcE,heE⟩⟩:=hlk b2 lb2
    rw [show u4/10%10=b2/10 by omega,show u4%10=b2%10 by omega,←hcE,←heE] at hpd2
    have dU2:IntKind.u32.wrap ((u4:Int)/100)=(u4/100:Nat):=o_rq u4 100 (by omega)
    have hU72:u4/100<10000000:=Nat.lt_of_le_of_lt (Nat.div_le_self _ _) hU74
    rw [hpd2]
    clear hb2 hcE heE hpd2
    generalize u4/100=W2 at *
    clear hbU4 hU74
    refine A10 (fs h2 (fs h2' (fs mb2 (fs wyE (fs dU2 (fs v1 (fs v2 (fs wzE (fs gyE (fs gzE (fs nyE (fs nzE (fs t1 t2))))))))))))) ?_;try with_reducible exact tt
    by_cases h1:0<q2
    ·have h1':(0:Int)<q2:=by omega
     have hP1:q2=0+1:=by omega
     have hU:W2<10:=by rw [hP1] at hbW2;simpa using hbW2
     obtain ⟨c,hc⟩:∃c,c=48+W2:=⟨_,rfl⟩
     have o1:IntKind.u32.wrap (48+(W2:Int))=c:=by rw [IntKind.wrap_u32];omega
     have o2:IntKind.u8.wrap (c:Int)=c:=by rw [IntKind.wrap_u8];omega
     have f:=fillF (A:=A) (p:=q2) (m:=0) hP1
     rw [Nat.add_zero] at f
     have hnd0:(0:Int)<nd:=by omega
     have hnd1:0<nd:=by omega
     refine A10 (fs h1 (fs h1' (fs o1 (fs o2 (fs f (fs hnd0 hnd1)))))) ?_;try with_reducible exact tt
     refine Subs.of ?_
     rw [hP1,hc]
     simp [padN,Nat.mod_eq_of_lt hU]
    ·have h1':¬(0:Int)<q2:=by omega
     have hP0:q2=0:=by omega
     subst hP0
     refine A10 (fs h1 h1') ?_;try with_reducible exact tt
     exact Subs.of (by simp [padN])
   ·have h2':¬(2:Int)≤p4:=by omega
    refine A10 (fs h2 h2') ?_;try with_reducible exact tt
    by_cases h1:0<p4
    ·have h1':(0:Int)<p4:=by omega
     have hP1:p4=0+1:=by omega
     have hU:u4<10:=by rw [hP1] at hbU4;simpa using hbU4
     obtain ⟨c,hc⟩:∃c,c=48+u4:=⟨_,rfl⟩
     have o1:IntKind.u32.wrap (48+(u4:Int))=c:=by rw [IntKind.wrap_u32];omega
     have o2:IntKind.u8.wrap (c:Int)=c:=by rw [IntKind.wrap_u8];omega
     have f:=fillF (A:=A) (p:=p4) (m:=0) hP1
     rw [Nat.add_zero] at f
     have hnd0:(0:Int)<nd:=by omega
     have hnd1:0<nd:=by omega
     refine A10 (fs h1 (fs h1' (fs o1 (fs o2 (fs f (fs hnd0 hnd1)))))) ?_;try with_reducible exact tt
     refine Subs.of ?_
     rw [hP1,hc]
     simp [padN,Nat.mod_eq_of_lt hU]
    ·have h1':¬(0:Int)<p4:=by omega
     have hP0:p4=0:=by omega
     subst hP0
     refine A10 (fs h1 h1') ?_;try with_reducible exact tt
     exact Subs.of (by simp [padN])
  ·have h4':¬(4:Int)≤p:=by omega
   refine A10 (fs h4 h4') ?_;try with_reducible exact tt
   by_cases h2:2≤p
   ·have h2':(2:Int)≤p:=by omega
    obtain ⟨q1,hq1⟩:∃m,p=m+1:=⟨p-1,by omega⟩
    have v1:IntKind.i64.wrap ((p:Int)-1)=q1:=w64s p 1 q1 hq1 (by omega)
    obtain ⟨q2,hq2⟩:∃m,p=m+2:=⟨p-2,by omega⟩
    have v2:IntKind.i64.wrap ((p:Int)-2)=q2:=w64s p 2 q2 hq2 (by omega)
    have t1:=fillF (A:=A) (p:=p) (m:=q1) (by omega)
    have t2:=fillF (A:=A) (p:=q1) (m:=q2) (by omega)
    have hbW2:u/100<10^q2:=by rw [Nat.div_lt_iff_lt_mul (by decide),show (100:Nat)=10^2 from rfl,←Nat.pow_add,←hq2];exact hul
    have hpd2:padN p u=padN q2 (u/100)++padN 2 u:=by rw [hq2,o_r0]
    rw [o_r2] at hpd2
    obtain ⟨b2,hb2⟩:∃b,b=u%100:=⟨_,rfl⟩
    have mb2:(u:Int).tmod 100=b2:=by rw [hb2];exact modN u 100
    have lb2:b2<100:=by rw [hb2];exact Nat.mod_lt _ (by decide)
    obtain ⟨yE,zE,cE,eE,⟨wyE,wzE,gyE,gzE,nyE,nzE,hcE,heE⟩⟩:=hlk b2 lb2
    rw [show u/10%10=b2/10 by omega,show u%10=b2%10 by omega,←hcE,←heE] at hpd2
    have dU2:IntKind.u32.wrap ((u:Int)/100)=(u/100:Nat):=o_rq u 100 (by omega)
    have hU72:u/100<10000000:=Nat.lt_of_le_of_lt (Nat.div_le_self _ _) hu7
    rw [hpd2]
    clear hb2 hcE heE hpd2
    generalize u/100=W2 at *
    clear hul hu7
    refine A10 (fs h2 (fs h2' (fs mb2 (fs wyE (fs dU2 (fs v1 (fs v2 (fs wzE (fs gyE (fs gzE (fs nyE (fs nzE (fs t1 t2))))))))))))) ?_;try with_reducible exact tt
    by_cases h1:0<q2
    ·have h1':(0:Int)<q2:=by omega
     have hP1:q2=0+1:=by omega
     have hU:W2<10:=by rw [hP1] at hbW2;simpa using hbW2
     obtain ⟨c,hc⟩:∃c,c=48+W2:=⟨_,rfl⟩
     have o1:IntKind.u32.wrap (48+(W2:Int))=c:=by rw [IntKind.wrap_u32];omega
     have o2:IntKind.u8.wrap (c:Int)=c:=by rw [IntKind.wrap_u8];omega
     have f:=fillF (A:=A) (p:=q2) (m:=0) hP1
     rw [Nat.add_zero] at f
     have hnd0:(0:Int)<nd:=by omega
     have hnd1:0<nd:=by omega
     refine A10 (fs h1 (fs h1' (fs o1 (fs o2 (fs f (fs hnd0 hnd1)))))) ?_;try with_reducible exact tt
     refine Subs.of ?_
     rw [hP1,hc]
     simp [padN,Nat.mod_eq_of_lt hU]
    ·have h1':¬(0:Int)<q2:=by omega
     have hP0:q2=0:=by omega
     subst hP0
     refine A10 (fs h1 h1') ?_;try with_reducible exact tt
     exact Subs.of (by simp [padN])
   ·have h2':¬(2:Int)≤p:=by omega
    refine A10 (fs h2 h2') ?_;try with_reducible exact tt
    by_cases h1:0<p
    ·have h1':(0:Int)<p:=by omega
     have hP1:p=0+1:=by omega
     have hU:u<10:=by rw [hP1] at hul;simpa using hul
     obtain ⟨c,hc⟩:∃c,c=48+u:=⟨_,rfl⟩
     have o1:IntKind.u32.wrap (48+(u:Int))=c:=by rw [IntKind.wrap_u32];omega
     have o2:IntKind.u8.wrap (c:Int)=c:=by rw [IntKind.wrap_u8];omega
     have f:=fillF (A:=A) (p:=p) (m:=0) hP1
     rw [Nat.add_zero] at f
     have hnd0:(0:Int)<nd:=by omega
     have hnd1:0<nd:=by omega
     refine A10 (fs h1 (fs h1' (fs o1 (fs o2 (fs f (fs hnd0 hnd1)))))) ?_;try with_reducible exact tt
     refine Subs.of ?_
     rw [hP1,hc]
     simp [padN,Nat.mod_eq_of_lt hU]
    ·have h1':¬(0:Int)<p:=by omega
     have hP0:p=0:=by omega
     subst hP0
     refine A10 (fs h1 h1') ?_;try with_reducible exact tt
     exact Subs.of (by simp [padN])
end
section
open Go.RowKit
@[simp] theorem o_s0:∀l:List Nat,intsV (yV l)=some (l.map fun n:Nat=>(n:Int))
 | []=>rfl
 | x::l=>by
  have:=o_s0 l
  unfold yV at this ⊢
  rw [List.map_cons,intsV,this]
  rfl
theorem o_s1 (l:List Nat):strOf (l.map fun n:Nat=>(n:Int))=bst l:=by
 unfold strOf bst
 rw [List.map_map]
 congr 1
theorem o_s2:((List.range 10).all fun n=>(lit1.extract n (n+1)).data.toList==[UInt8.ofNat (48+n)])=true∧((List.range 100).all fun n=>n<10 || (lit2.extract (n*2) (n*2+2)).data.toList==[UInt8.ofNat (48+n/10),UInt8.ofNat (48+n%10)])=true:=⟨by kernel_rfl,by kernel_rfl⟩
theorem o_s3 (n:Nat) (h:n<100):smallS n=txt n:=by
 have key:∀(s:ByteArray) (l:List UInt8),s.data.toList=l→s=⟨l.toArray⟩:=by
  rintro ⟨a⟩ l rfl
  rfl
 unfold smallS
 split
 ·rename_i h10
  have:=List.all_eq_true.1 o_s2.1 n (by simpa using h10)
  simp only [beq_iff_eq] at this
  rw [key _ _ this,txt,decN,ndig,if_pos h10]
  simp [padN,bst,Nat.mod_eq_of_lt h10]
 ·rename_i h10
  have:=List.all_eq_true.1 o_s2.2 n (by simpa using h)
  simp only [h10,decide_false,Bool.false_or,beq_iff_eq] at this
  have h1:n/10<10:=by omega
  rw [key _ _ this,txt,decN,ndig,if_neg h10,ndig,if_pos h1]
  simp [padN,bst,Nat.mod_eq_of_lt h1]
theorem o_s4 (n:Nat) (hn:n<18446744073709551616):Eqn Tryz.prog o_ek [.d (.int .u64 n),.d (.int .i64 10)] [] (.d (.str (txt n))) []:=by
 by_cases h100:n<100
 ·rw [←o_s3 n h100];exact o_oj n h100
 refine Eqn.pure o_em (o_5e _) ?_
 refine cc (c':=?z125) ?_ ?_
 case refine_1=>cbv<;>exact rfl
 have h1:¬(n:Int)<100:=by omega
 have hnd:=o_ro n (by omega) hn
 have hlt:=o_r8 n
 have hle:=o_r9 n 20 (Nat.lt_trans hn (by decide)) (by decide)
 have htx:txt n=bst (padN (ndig n) n):=rfl
 rw [htx]
 generalize ndig n=nd at *
 have hf:=o_rz n nd hn hle hlt [] (List.replicate (24-nd) 0) (by simp)
 have hz:yV ([]++(List.replicate nd 0++List.replicate (24-nd) 0))=List.replicate 24 (V.d (.int .u8 0)):=by
  rw [List.nil_append,List.replicate_append_replicate,show nd+(24-nd)=24 by omega];rfl
 rw [hz] at hf
 rw [List.nil_append,List.length_nil] at hf
 have htk:(yV (padN nd n++List.replicate (24-nd) 0)).take nd=yV (padN nd n):=by
  unfold yV
  rw [List.map_append,List.take_append_of_le_length (by rw [List.length_map,o_qz];exact Nat.le_refl _),List.take_of_length_le (by rw [List.length_map,o_qz];exact Nat.le_refl _)]
 have hln:(padN nd n).length=nd:=o_qz _ _
 have hst:=o_s1 (padN nd n)
 have hni:(nd:Int)≤24:=by omega
 refine A10 (fs h100 h1) ?_;try with_reducible exact tt
 refine CallS.pu (hnd) (R1 hni ?_);try with_reducible exact tt
 refine CallS.g [0] (hf) (R1 (fs hni (fs htk (fs hln hst))) ?_);try with_reducible exact tt
 done
end
section
open Go.RowKit
def spcL:ByteArray:=⟨#[32,32,32,32,32,32,32,32,32,32,32,32,32,32,32,32,32,32,32,32,32,32,32,32,32,32,32,32,32,32,32,32,32,32,32,32,32,32,32,32,32,32,32,32,32,32,32,32,32,32,32,32,32,32,32,32,32,32,32,32,32,32,32,32,32,32,32,32,32,32,32,32,32,32,32,32,32,32,32,32,32,32,32,32,32,32,32,32,32,32,32,32,32,32,32,32,32,32,32,32,32,32,32,32,32,32,32,32,32,32,32,32,32,32,32,32,32,32,32,32,32,32,32,32,32,32,32,32]⟩
def dshL:ByteArray:=⟨#[45,45,45,45,45,45,45,45,45,45,45,45,45,45,45,45,45,45,45,45,45,45,45,45,45,45,45,45,45,45,45,45,45,45,45,45,45,45,45,45,45,45,45,45,45,45,45,45,45,45,45,45,45,45,45,45,45,45,45,45,45,45,45,45,45,45,45,45,45,45,45,45,45,45,45,45,45,45,45,45,45,45,45,45,45,45,45,45,45,45,45,45,45,45,45,45,45,45,45,45,45,45,45,45,45,45,45,45,45,45,45,45,45,45,45,45,45,45,45,45,45,45,45,45,45,45,45,45]⟩
def zerL:ByteArray:=⟨#[48,48,48,48,48,48,48,48,48,48,48,48,48,48,48,48,48,48,48,48,48,48,48,48,48,48,48,48,48,48,48,48,48,48,48,48,48,48,48,48,48,48,48,48,48,48,48,48,48,48,48,48,48,48,48,48,48,48,48,48,48,48,48,48]⟩
theorem o_s5:spcL.size=128:=by kernel_rfl
theorem o_s6:dshL.size=128:=by kernel_rfl
theorem o_s7:zerL.size=64:=by kernel_rfl
theorem o_s8:((spcL.extract 0 1).toList==(⟨#[48]⟩:ByteArray).toList)=false:=by kernel_rfl
theorem o_s9:((dshL.extract 0 1).toList==(⟨#[48]⟩:ByteArray).toList)=false:=by kernel_rfl
theorem o_sa:((zerL.extract 0 1).toList==(⟨#[48]⟩:ByteArray).toList)=true:=by kernel_rfl
theorem o_sb:((List.range 65).all fun k=>(zerL.extract 0 k).data.toList==(List.replicate k 48).map UInt8.ofNat)=true:=by kernel_rfl
theorem o_sc (k:Nat) (h:k≤64):zerL.extract 0 k=bst (List.replicate k 48):=by
 have:=List.all_eq_true.1 o_sb k (by simp;omega)
 simp only [beq_iff_eq] at this
 unfold bst
 rw [←this]
theorem o_sd (s p:ByteArray) (h:p.size≤s.size) (hs:s.size≤1000):Eqn Tryz.prog o_fq [.d (.str s),.d (.str p)] [] (.d (.bool ((s.extract 0 p.size).toList==p.toList))) []:=by
 refine Eqn.pure o_fs Plain.ok ?_
 refine cc (c':=?z126) ?_ ?_
 case refine_1=>cbv<;>exact rfl
 have h':(p.size:Int)≤s.size:=by omega
 refine A10 (fs h h') ?_;try with_reducible exact tt
theorem o_se (s p:ByteArray) (h:p.size≤s.size) (hs:s.size≤1000):Eqn Tryz.prog o_eq [.d (.str s),.d (.str p)] [] (.d (.bool ((s.extract 0 p.size).toList==p.toList))) []:=by
 refine Eqn.pure o_es Plain.ok ?_
 refine cc (c':=?z127) ?_ ?_
 case refine_1=>cbv<;>exact rfl
 have hh:=o_sd s p h hs
 refine A01 hh ?_;try with_reducible exact tt
theorem o_sf (k:Nat) (h:k<18446744073709551616):Eqn Tryz.prog o_en [.d (.int .u64 1),.d (.int .u64 k)] [] (.tup [.d (.int .u64 0),.d (.int .u64 k)]) []:=by
 refine Eqn.pure o_ep Plain.ok ?_
 refine cc (c':=?z128) ?_ ?_
 case refine_1=>cbv<;>exact rfl
 have hm:=o_lj 1 k (by omega) h
 rw [Nat.one_mul,Nat.div_eq_of_lt h,Nat.mod_eq_of_lt h] at hm
 refine A01 hm ?_;try with_reducible exact tt
@[simp] theorem o_sg:ByteArray.size ⟨#[48]⟩=1:=rfl
theorem o_sh (k:Nat) (hk:k≤18):Eqn Tryz.prog o_ch [.d (.str ⟨#[48]⟩),.d (.int .i64 k)] [] (.d (.str (bst (List.replicate k 48)))) []:=by
 refine Eqn.pure o_cj Plain.ok ?_
 refine cc (c':=?z129) ?_ ?_
 case refine_1=>cbv<;>exact rfl
 rw [show (⟨#[32,32,32,32,32,32,32,32,32,32,32,32,32,32,32,32,32,32,32,32,32,32,32,32,32,32,32,32,32,32,32,32,32,32,32,32,32,32,32,32,32,32,32,32,32,32,32,32,32,32,32,32,32,32,32,32,32,32,32,32,32,32,32,32,32,32,32,32,32,32,32,32,32,32,32,32,32,32,32,32,32,32,32,32,32,32,32,32,32,32,32,32,32,32,32,32,32,32,32,32,32,32,32,32,32,32,32,32,32,32,32,32,32,32,32,32,32,32,32,32,32,32,32,32,32,32,32,32]⟩:ByteArray)=spcL from rfl]
 rw [show (⟨#[45,45,45,45,45,45,45,45,45,45,45,45,45,45,45,45,45,45,45,45,45,45,45,45,45,45,45,45,45,45,45,45,45,45,45,45,45,45,45,45,45,45,45,45,45,45,45,45,45,45,45,45,45,45,45,45,45,45,45,45,45,45,45,45,45,45,45,45,45,45,45,45,45,45,45,45,45,45,45,45,45,45,45,45,45,45,45,45,45,45,45,45,45,45,45,45,45,45,45,45,45,45,45,45,45,45,45,45,45,45,45,45,45,45,45,45,45,45,45,45,45,45,45,45,45,45,45,45]⟩:ByteArray)=dshL from rfl]
 rw [show (⟨#[48,48,48,48,48,48,48,48,48,48,48,48,48,48,48,48,48,48,48,48,48,48,48,48,48,48,48,48,48,48,48,48,48,48,48,48,48,48,48,48,48,48,48,48,48,48,48,48,48,48,48,48,48,48,48,48,48,48,48,48,48,48,48,48]⟩:ByteArray)=zerL from rfl]
 by_cases h0:k=0
 ·subst h0
  refine A00 ?_;try with_reducible exact tt
  exact Sub1.of rfl
 by_cases h1:k=1
 ·subst h1
  refine A00 ?_;try with_reducible exact tt
  exact Sub1.of rfl
 have e1:=o_s5
 have e2:=o_s6
 have e3:=o_s7
 have p1:=o_se spcL ⟨#[48]⟩ (by rw [e1];decide) (by omega)
 have p2:=o_se dshL ⟨#[48]⟩ (by rw [e2];decide) (by omega)
 have p3:=o_se zerL ⟨#[48]⟩ (by rw [e3];decide) (by omega)
 rw [o_sg,o_s8] at p1
 rw [o_sg,o_s9] at p2
 rw [o_sg,o_sa] at p3
 have hx:=o_sc k (by omega)
 have hm:=o_sf k (by omega)
 generalize spcL=s1 at *
 generalize dshL=s2 at *
 generalize zerL=s3 at *
 have ku:IntKind.u64.wrap (k:Int)=k:=by rw [IntKind.wrap_u64];omega
 have ki:IntKind.i64.wrap (k:Int)=k:=by rw [IntKind.wrap_i64];omega
 have g1:¬(k:Int)=0:=by omega
 have g2:¬(k:Int)=1:=by omega
 have g3:¬(k:Int)<0:=by omega
 have g4:(k:Int)≤128:=by omega
 have g5:(k:Int)≤64:=by omega
 have g6:¬(9223372036854775807:Int)<k:=by omega
 have e3k:k≤s3.size:=by omega
 refine A14 (fs h0 (fs h1 (fs g1 (fs g2 (fs g3 (fs g4 (fs g5 (fs g6 (fs ku (fs ki (fs e3 (fs hx e3k)))))))))))) hm p1 p2 p3 ?_;try with_reducible exact tt
 done
end
section
open Go.RowKit
theorem o_si:txt 0=⟨#[48]⟩:=by rw [txt,decN,ndig];rfl
theorem o_sj (n:Nat) (hn:n<18446744073709551616):Eqn Tryz.prog o_ce [.d (.int .u64 n),.d (.int .i64 10)] [] (.d (.str (txt n))) []:=by
 refine Eqn.pure o_cg (o_5e _) ?_
 refine cc (c':=?z130) ?_ ?_
 case refine_1=>cbv<;>exact rfl
 have h:=o_s4 n hn
 refine A01 h ?_;try with_reducible exact tt
def wN (a i:Nat):Nat:=a/10^(18*i)
def outN (a i:Nat):List Nat:=if wN a i=0 then decN a else padN (18*i) a
theorem o_sk (a i:Nat):wN a (i+1)=wN a i/1000000000000000000:=by rw [wN,wN,Nat.div_div_eq_div_mul,Nat.mul_succ,Nat.pow_add]
theorem e18:(1000000000000000000:Nat)=10^18:=by decide
theorem o_sl (a i:Nat) (h:0<wN a (i+1)) (h0:0<wN a i):List.replicate (18-(decN (wN a i%1000000000000000000)).length) 48++decN (wN a i%1000000000000000000)++outN a i=outN a (i+1):=by
 have h1:outN a i=padN (18*i) a:=by rw [outN,if_neg (by omega)]
 have h2:outN a (i+1)=padN (18*(i+1)) a:=by rw [outN,if_neg (by omega)]
 have h3:padN (18*(i+1)) a=padN 18 (wN a i)++padN (18*i) a:=by rw [show 18*(i+1)=18+18*i by omega,o_r0];rfl
 rw [h1,h2,h3,e18,o_rc _ 18 (Nat.mod_lt _ (Nat.pow_pos (by decide))) (by decide),o_r5 18 (wN a i)]
theorem o_sm (a i:Nat) (h:wN a (i+1)=0) (h0:0<wN a i):decN (wN a i%1000000000000000000)++outN a i=outN a (i+1):=by
 rw [outN,outN,if_neg (by omega),if_pos h,Nat.mod_eq_of_lt (by rw [o_sk] at h;omega),o_rb (18*i) a h0]
 rfl
theorem splitN (w y:Nat) (h0:0<y):wval (splitW y (words w)).1=w/y∧(splitW y (words w)).2=w%y:=by
 obtain ⟨h1,h2,-,-⟩:=o_m4 h0 (o_jc w)
 rw [o_jb] at h1
 generalize splitW y (words w)=s at *
 constructor
 ·rw [h1,Nat.mul_comm,Nat.mul_add_div h0,Nat.div_eq_of_lt h2,Nat.add_zero]
 ·rw [h1,Nat.mul_comm,Nat.mul_add_mod,Nat.mod_eq_of_lt h2]
theorem o_sn (a:Nat) (ha:size a≤1000):Eqn Tryz.prog o_9j [.d (.agg [natW a])] [] (.d (.str (txt a))) []:=by
 refine Eqn.pure o_9l (o_5e _) ?_
 have hz:=o_jm a
 refine cc (c':=?z131) ?_ ?_
 case refine_1=>cbv<;>exact rfl
 by_cases h0:a=0
 ·subst h0
  refine A01 hz ?_;try with_reducible exact tt
  exact Sub1.of (by rw [o_si])
 have hda:ndig a≤20000:=by
  have h1:=o_ig (o_jc a)
  rw [o_jb] at h1
  obtain ⟨K,hK⟩:∃K,K=20*(words a).length:=⟨_,rfl⟩
  have h2:a<10^K:=by
   rw [hK,Nat.pow_mul]
   exact Nat.lt_of_lt_of_le h1 (Nat.pow_le_pow_left (by decide) _)
  rcases Nat.eq_zero_or_pos K with h3 | h3
  ·rw [h3] at h2;simp at h2;omega
  ·have:=o_r9 a K h2 h3
   rw [o_ke] at hK
   omega
 refine A11 h0 hz ?_;try with_reducible exact tt
 refine AW.loopT (α:=Nat) 1 (fun i=>[(4,.d (natW (wN a i))),(3,.d (.str (bst (outN a i))))]) (fun i=>[]) (fun i=>True) (fun i=>wN a i) 0 ?_ ?_ trivial ?_ ?_ ?_
 ·simp
 ·simp
 ·have e1:outN a 0=[]:=by rw [outN,if_neg (by rw [wN];simpa using h0)];rfl
  have e2:wN a 0=a:=by simp [wN]
  rw [e1,e2]
  simp [o_rf]
 ·simp
 intro i _
 have hw:wN a i≤a:=Nat.div_le_self _ _
 have hsw:=o_k5 hw
 by_cases hwz:wN a i=0
 ·have e1:outN a i=decN a:=by rw [outN,if_pos hwz]
  rw [e1,hwz,o_jh]
  simp
  refine A00 ?_;try with_reducible exact tt
  exact Sub1.of rfl
 ·have hs:=o_m7 (words (wN a i)) 1000000000000000000 (o_jc _) (by rw [o_ke];omega) (by decide) (by decide)
  have ht:=o_jk (splitW 1000000000000000000 (words (wN a i))).1 (o_m4 (by decide) (o_jc _)).2.2.1 (by rw [(o_m4 (y:=1000000000000000000) (by decide) (o_jc _)).2.2.2,o_ke];omega)
  obtain ⟨k1,k2⟩:=splitN (wN a i) 1000000000000000000 (by decide)
  rw [k2] at hs
  rw [k1,←o_sk] at ht
  have hf:=o_sj (wN a i%1000000000000000000) (Nat.lt_trans (Nat.mod_lt _ (by decide)) (by decide))
  have hlt:wN a (i+1)<wN a i:=by rw [o_sk];exact Nat.div_lt_self (by omega) (by decide)
  have hdl:=o_rg (wN a i%1000000000000000000)
  have hd18:=o_r9 (wN a i%1000000000000000000) 18 (Nat.mod_lt _ (by decide)) (by decide)
  have hd0:=o_r7 (wN a i%1000000000000000000)
  obtain ⟨w,hwd⟩:∃w,w=wN a i:=⟨_,rfl⟩
  obtain ⟨w1,hwd1⟩:∃w,w=wN a (i+1):=⟨_,rfl⟩
  obtain ⟨pt,hpt⟩:∃w,w=wN a i%1000000000000000000:=⟨_,rfl⟩
  have hW:natW w=W (words w):=rfl
  have hlw:0<(words w).length:=by
   rcases Nat.eq_zero_or_pos (words w).length with h | h
   ·exact absurd (o_jf.1 (List.eq_nil_of_length_eq_zero h)) (by omega)
   ·exact h
  have hol:(outN a i).length≤20000:=by
   rw [outN,if_neg hwz,o_qz]
   have:=o_ra (18*i) a (Nat.pos_of_ne_zero hwz)
   omega
  have hmore:=o_sl a i
  have hlast:=o_sm a i
  rw [←hpt] at hs hf hmore hlast hdl hd18 hd0
  rw [←hwd] at hs ht hlt hmore hlast hwz hw hsw ⊢
  rw [←hwd1] at ht hlt hmore hlast
  simp only [W] at hs ht hW
  generalize (words w).length=nw at *
  generalize ((words w).map fun x:Nat=>D.int .u64 x)=LW at *
  generalize (splitW 1000000000000000000 (words w)).1=sw1 at *
  simp
  rw [hW]
  have hlw':(0:Int)<nw:=by omega
  rw [txt] at hf
  obtain ⟨O,hO⟩:∃O,O=outN a i:=⟨_,rfl⟩
  obtain ⟨B,hB⟩:∃B,B=decN pt:=⟨_,rfl⟩
  rw [←hO] at hmore hlast hol ⊢
  rw [←hB] at hmore hlast hdl hf
  refine A13 (fs hlw hlw') hs ht hf ?_;try with_reducible exact tt
  have hap:=o_rd
  by_cases h1:w1=0
  ·rw [h1,o_jh]
   replace hlast:=hlast (by omega) (by omega)
   refine A00 ?_;try with_reducible exact tt
   have e1:=o_rd B O
   rw [hlast] at e1
   exact ⟨i+1,by rw [←hwd1];exact hlt,Sub1.of (by rw [e1]),Sub1.of (by rw [←hwd1,h1,o_jh])⟩
  ·have hW1:natW w1=W (words w1):=rfl
   simp only [W] at hW1
   have hl1:0<(words w1).length:=by
    rcases Nat.eq_zero_or_pos (words w1).length with h | h
    ·exact absurd (o_jf.1 (List.eq_nil_of_length_eq_zero h)) h1
    ·exact h
   generalize (words w1).length=nw1 at *
   generalize ((words w1).map fun x:Nat=>D.int .u64 x)=LW1 at *
   have hl1':(0:Int)<nw1:=by omega
   replace hmore:=hmore (by omega) (by omega)
   obtain ⟨k,hk⟩:∃k,k=18-B.length:=⟨_,rfl⟩
   have hr:=o_sh k (by omega)
   have ek:IntKind.i64.wrap (18-(B.length:Int))=k:=by rw [w64 (by omega) (by omega)];omega
   rw [←hk] at hmore
   have e1:=o_rd (List.replicate k 48) B
   have e2:=o_rd (List.replicate k 48++B) O
   rw [hmore] at e2
   rw [hW1]
   have hsz:(List.replicate k 48++B).length≤18:=by simp;omega
   generalize hRB:List.replicate k 48++B=RB at *
   generalize hRR:List.replicate k 48=RR at *
   have hrl:RR.length≤18:=by rw [←hRR];simp;omega
   refine A11 (fs hl1 (fs hl1' (fs ek e1))) hr ?_;try with_reducible exact tt
   exact ⟨i+1,by rw [←hwd1];exact hlt,Sub1.of (by rw [e2]),Sub1.of (by rw [←hwd1,hW1])⟩
end
section
open Go.RowKit
@[simp] theorem o_so:intsV []=some []:=rfl
@[simp] theorem o_sp (n:Int):intsV [.d (.int .u8 n)]=some [n]:=rfl
end
section
open Go.RowKit
theorem dsmall.set {l:List Nat} (h:dsmall l) (j v:Nat) (hv:v<10000):dsmall (l.set j v):=fun x hx=>by
 rcases List.mem_or_eq_of_mem_set hx with h1 | h1
 ·exact h x h1
 ·rw [h1];exact hv
@[simp] theorem lowI (n:Nat):∀l:List Nat,V.lowl n (l.map fun x:Nat=>V.d (D.int .i64 x))=true
 | []=>rfl
 | x::l=>by
  have:=lowI n l
  simp only [List.map_cons,V.lowl,this];rfl
@[simp] theorem lowR (n m:Nat) (x:D):V.lowl n (List.replicate m (V.d x))=true:=by
 induction m with
 | zero=>rfl
 | succ m ih=>simp only [List.replicate_succ,V.lowl,ih];rfl
end
section
open Go.RowKit
end
section
open Go.RowKit
end
section
open Go.RowKit
theorem o_sq {s k:Nat} (h1:1≤s) (h5:s≤5) (hk:k≤1023):(placeY s k).reply<2^1100∧(placeY s k).value<2^1100∧(placeY s k).shift≤1100∧(placeY s k).x≤1023:=by
 obtain ⟨a1,a2,a3,a4,a5⟩:=o_ks h1 k
 obtain ⟨E,hE⟩:∃E,E=1100:=⟨_,rfl⟩
 rw [←hE]
 have e4:(2:Nat)^(2*s+k)<2^E:=Nat.pow_lt_pow_right (by decide) (by omega)
 have e2:k*2^(2*s+k)<2^10*2^(2*s+k):=Nat.mul_lt_mul_of_pos_right (by omega) (Nat.two_pow_pos _)
 rw [←Nat.pow_add] at e2
 have e3:(2:Nat)^(10+(2*s+k))<2^E:=Nat.pow_lt_pow_right (by decide) (by omega)
 refine ⟨Nat.lt_of_le_of_lt a2 e4,Nat.lt_of_le_of_lt a4 (Nat.lt_trans e2 e3),by omega,by omega⟩
end
section
open Go.RowKit
theorem o_sr {a b:Nat} (h:GoodT a b) (y t:Int) (f:Bool) (hn:y<0∨t<0):Eqn Tryz.prog o_b8 [.d (tpD a b),.d (.agg [.int .i64 y,.int .i64 t,.bool f])] [] (.d (.bool false)) []:=by
 refine Eqn.pure o_ba Plain.ok ?_
 have hc:=o_qm h
 refine cc (c':=?z132) ?_ ?_
 case refine_1=>cbv<;>exact rfl
 try simp only [tpD] at hc ⊢
 by_cases g:0≤y
 ·have g4:¬0≤t:=by omega
  by_cases h1:y≤a
  ·refine G1 (fs g (fs h1 g4)) ?_;try with_reducible exact tt
   refine CallS.pu (hc) (R1 (fs g (fs h1 g4)) ?_);try with_reducible exact tt
  ·refine G1 (fs g (fs h1 g4)) ?_;try with_reducible exact tt
   refine CallS.pu (hc) (R1 (fs g (fs h1 g4)) ?_);try with_reducible exact tt
 ·refine G1 g ?_;try with_reducible exact tt
  refine CallS.pu (hc) (R1 g ?_);try with_reducible exact tt

theorem o_ss {k a b:Nat} (h:GoodR k a b) (y t:Int) (f:Bool) (hn:y<0∨t<0):Eqn Tryz.prog o_8v [.d (parD k a b),.d (.agg [.int .i64 y,.int .i64 t,.bool f])] [] (.d (.bool false)) []:=by
 refine Eqn.pure o_8x Plain.ok ?_
 have hc:=o_qt h
 rcases h with ⟨rfl,h⟩ | ⟨hk,h⟩
 ·have h1:=o_qq 4 a b
  have h2:=o_sr h y t f hn
  have h3:=o_qs y t f
  refine cc (c':=?z133) ?_ ?_
  case refine_1=>cbv<;>exact rfl
  try simp only [parD,tpD] at hc h1 h2 h3 ⊢
  refine G0 ?_;try with_reducible exact tt
  refine CallS.pu (hc) (R0 ?_);try with_reducible exact tt
  refine AW.cond rfl (fun h=>?_) (fun h=>?_)
  ·simp at h
  refine G0 ?_;try with_reducible exact tt
  refine AW.cond rfl (fun h=>?_) (fun h=>?_)
  ·refine G0 ?_;try with_reducible exact tt
   refine CallS.pu (h1) (R0 ?_);try with_reducible exact tt
   refine CallS.pu (h3) (R0 ?_);try with_reducible exact tt
   refine CallS.pu (h2) (R0 ?_);try with_reducible exact tt
  ·simp at h
 ·have h1:=o_qr k a b
  have h2:=o_q6 k a b h.2.2 (o_qo h)
  have hk':¬(k:Int)=4:=by omega
  refine cc (c':=?z134) ?_ ?_
  case refine_1=>cbv<;>exact rfl
  try simp only [parD] at hc h1 h2 ⊢
  generalize 2^b-1=S at *
  by_cases ht:t=0
  ·have g:¬0≤y:=by omega
   refine G1 (fs g (fs hk (fs hk' ht))) ?_;try with_reducible exact tt
   refine CallS.pu (hc) (R1 (fs g (fs hk (fs hk' ht))) ?_);try with_reducible exact tt
   refine AW.cond rfl (fun h=>?_) (fun h=>?_)
   ·simp at h
   refine G1 (fs g (fs hk (fs hk' ht))) ?_;try with_reducible exact tt
   refine AW.cond rfl (fun h=>?_) (fun h=>?_)
   ·simp [hk'] at h
   refine G1 (fs g ht) ?_;try with_reducible exact tt
   refine CallS.pu (h1) (R1 (fs g ht) ?_);try with_reducible exact tt
   refine CallS.pu (h2) (R1 (fs g ht) ?_);try with_reducible exact tt
  ·refine G1 (fs hk (fs hk' ht)) ?_;try with_reducible exact tt
   refine CallS.pu (hc) (R1 (fs hk (fs hk' ht)) ?_);try with_reducible exact tt
   refine AW.cond rfl (fun h=>?_) (fun h=>?_)
   ·simp at h
   refine G1 (fs hk (fs hk' ht)) ?_;try with_reducible exact tt
   refine AW.cond rfl (fun h=>?_) (fun h=>?_)
   ·simp [hk'] at h
   refine G1 ht ?_;try with_reducible exact tt
   refine CallS.pu (h1) (R1 ht ?_);try with_reducible exact tt
   refine CallS.pu (h2) (R1 ht ?_);try with_reducible exact tt
end
section
def exitQ {β:Type} (id N:Nat) (T1:β→List V) (H1:β→List (Option Ob)) (R2:β→Prop) (Q:Exit→List V→List (Option Ob)→Prop):Exit→List V→List (Option Ob)→Prop
 | .exit j,T,H=>if j=id then ∃b,R2 b∧wk N T (T1 b)∧wkH N H (H1 b) else Q (.exit j) T H
 | .normal,_,_=>False
 | e,T,H=>Q e T H
attribute [simp] exitQ
end
section
open Go.RowKit
theorem o_st (k a b:Int):Eqn Tryz.prog o_6v [.d (parD k a b)] [] (.d (parD k a b)) []:=by
 refine Eqn.pure o_6x Plain.ok ?_
 refine cc (c':=?z135) ?_ ?_
 case refine_1=>cbv<;>exact rfl
 try simp only [parD]
 refine G0 ?_;try with_reducible exact tt
theorem o_su (y t:Int) (f:Bool):Eqn Tryz.prog o_6y [.d (.agg [.int .i64 y,.int .i64 t,.bool f])] [] (.d (.agg [.int .i64 y,.int .i64 t,.bool f])) []:=by
 refine Eqn.pure o_70 Plain.ok ?_
 refine cc (c':=?z136) ?_ ?_
 case refine_1=>cbv<;>exact rfl
 refine G0 ?_;try with_reducible exact tt
end
section
open Go.RowKit
end
section
open Go.RowKit
end
section
open Go.RowKit

theorem o_sv {P:Program} {f:FuncId} {c:C} {rs:List RV} {nt:Nat} (hf:fnOf P f=some (c,rs,nt,false)) (vs:Array Value) (w:World):(callFunc f vs).run P w = .ok (.enter f vs) w:=by
 unfold fnOf at hf
 split at hf
 ·rename_i fn hfn
  split at hf
  ·rename_i b hb
   simp only [Option.some.injEq,Prod.mk.injEq] at hf
   obtain ⟨h1,h2,h3,h4⟩:=hf
   have h1 : ¬ fn.name = "runtime.NumGoroutine" := by simpa using h4
   simp [callFunc,hfn,h1,hb]
  ·cases hf
 ·cases hf

abbrev memW (W:World):Mem:=⟨fun _=>none,fun b=>b<W.heap.size,W⟩

theorem o_sw {P:Program} {f:FuncId} {args:List V} {c:C} {rs:List RV} {nt:Nat} (hf:fnOf P f=some (c,rs,nt,false)) (E:Eqn P f args [] (.d (.bool true)) []) {W:World} {vs:List Value} (h:V.reps (memW W) args vs) (ht:Tabs (memW W)) :
  Calls P f vs.toArray W (fun e W'=>e = .returned (.bool true)∧Same W W'):=by
 rcases E.run (memW W) vs ⟨fun b h=>h,fun n b h=>(by cases h),ht⟩ h (by simp) (fun n i b h=>by simp at h) (fun _ _=>rfl) with ⟨v,h1,_⟩ | ⟨_,h2⟩
 ·rw [o_sv hf] at h1;cases h1
 ·refine h2.mono ?_
  rintro e w' ⟨v,m',rfl,rfl,hE⟩
  have hv:=hE.rep
  rw [V.rep_d] at hv
  unfold D.rep at hv
  subst hv
  exact ⟨rfl,hE.le.os,hE.le.tape,hE.le.output,hE.le.size,fun k hk _=>hE.le.imm k hk⟩

theorem reps_of {I:Nat→Prop} {w:World} {α:Type} (f:α→D) (g:α→Value) (h:∀a,D.rep I w (f a) (g a)):∀l:List α,D.reps I w (l.map f) (l.map g)
 | []=>by simp
 | a::l=>by
  rw [List.map_cons,List.map_cons,D.reps_cons]
  exact ⟨h a,reps_of f g h l⟩

theorem o_sx {W:World} {l:List D} {vs:List Value} (h1:∀u∈vs,u.oneCell'=true) (h:D.reps (fun b=>b<W.heap.size) W l vs):V.rep (memW W) (.d (.agg l)) (.agg vs.toArray):=by
 rw [V.rep_d]
 unfold D.rep
 exact ⟨vs,rfl,h1,h⟩
end
section
open Go.RowKit
end
section
open Go.RowKit
end
section
open Go.RowKit
end
section
open Go.RowKit
end
section
open Go.RowKit
end
section
open Go.RowKit
end
section
open Go.RowKit
end
section
open Go.RowKit
theorem o_sy {n:Nat} (h:0<n):bitsN n=bitsN (n/2)+1:=by
 refine Nat.le_antisymm (o_ko ?_) ?_
 ·have:=o_kn (n/2)
  rw [Nat.pow_succ]
  omega
 ·have h1:n/2<2^(bitsN n-1):=by
   have h2:=o_kn n
   have h3:bitsN n≠0:=fun h0=>by rw [h0] at h2;simp at h2;omega
   obtain ⟨m,hm⟩:∃m,bitsN n=m+1:=⟨bitsN n-1,by omega⟩
   rw [hm,Nat.pow_succ] at h2
   rw [hm,Nat.add_sub_cancel]
   omega
  have:=o_ko h1
  have h3:bitsN n≠0:=fun h0=>by have h2:=o_kn n;rw [h0] at h2;simp at h2;omega
  omega
end
section
open Go.RowKit
theorem o_sz (d:Nat) (hd:d≤10):Eqn Tryz.prog o_az [.d (.int .i64 d)] [] (.d (.int .i64 (2^d:Nat))) []:=by
 have h:=o_q0 d (by omega)
 have e:p2 d=2^d:=rfl
 rw [e] at h
 exact h
theorem o_t0 {a b:Nat} (h:GoodT a b):Eqn Tryz.prog o_8g [.d (.agg [.int .i64 a,.int .i64 b])] [] (.d (.bool true)) []:=by
 refine Eqn.pure o_8i Plain.ok ?_
 obtain ⟨h1,h2,h3⟩:=h
 have g1:(1:Int)≤a:=by omega
 have g2:(a:Int)≤1023:=by omega
 have g3:(0:Int)≤b:=by omega
 have g4:(b:Int)≤20:=by omega
 refine cc (c':=?z137) ?_ ?_
 case refine_1=>cbv<;>exact rfl
 refine A10 (fs g1 (fs g2 (fs g3 g4))) ?_;try with_reducible exact tt
theorem o_t1 (k a:Int) (w:Nat) (hw:w≤10):Eqn Tryz.prog o_8p [.d (.agg [.int .i64 k,.int .i64 a,.int .i64 w])] [] (.d (.int .i64 (2^w-1:Nat))) []:=by
 refine Eqn.pure o_8r Plain.ok ?_
 have hs:=o_sz w hw
 have hp:1≤2^w:=Nat.one_le_two_pow
 have hp2:2^w≤2^10:=Nat.pow_le_pow_right (by omega) hw
 refine cc (c':=?z138) ?_ ?_
 case refine_1=>cbv<;>exact rfl
 generalize 2^w=S at *
 have e:IntKind.i64.wrap ((S:Int)-1)=((S-1:Nat):Int):=by rw [w64 (by omega) (by omega)];omega
 refine A00 ?_;try with_reducible exact tt
 refine CallS.pu (hs) (R1 e ?_);try with_reducible exact tt
theorem o_t2 {k a w:Nat} (h:GoodC k a w):Eqn Tryz.prog o_8j [.d (.agg [.int .i64 k,.int .i64 a,.int .i64 w])] [] (.d (.bool true)) []:=by
 refine Eqn.pure o_8l Plain.ok ?_
 obtain ⟨hk,w1,w2⟩:=h
 have hs:=o_sz w w2
 have hp:1≤2^w:=Nat.one_le_two_pow
 have hp2:2^w≤2^10:=Nat.pow_le_pow_right (by omega) w2
 have g1:¬(w:Int)<1:=by omega
 have g2:¬(10:Int)<w:=by omega
 refine cc (c':=?z139) ?_ ?_
 case refine_1=>cbv<;>exact rfl
 generalize 2^w=S at *
 have e:IntKind.i64.wrap ((S:Int)-1)=((S-1:Nat):Int):=by rw [w64 (by omega) (by omega)];omega
 rcases hk with ⟨rfl,a1,a2,hm⟩ | ⟨rfl,a1⟩ | ⟨rfl,a1,a2⟩
 ·have g3:¬(a:Int)<1:=by omega
  have g4:¬(4096:Int)<a:=by omega
  have e2:IntKind.i64.wrap ((a:Int)+1)=((a+1:Nat):Int):=by rw [w64 (by omega) (by omega)];omega
  refine A10 (fs g1 g2) ?_;try with_reducible exact tt
  refine CallS.pu (hs) (R1 e ?_);try with_reducible exact tt
  refine A10 (fs g3 (fs g4 e2)) ?_;try with_reducible exact tt
  have hb:bitsN (a+1)≤13:=o_ko (by omega)
  refine AW.loopT (α:=Nat×Nat) 1 (fun s=>[(4,.d (.int .i64 (s.2:Nat))),(5,.d (.int .i64 (s.1:Nat)))]) (fun s=>[]) (fun s=>s.1≤a+1∧bitsN s.1+s.2=bitsN (a+1)) (fun s=>s.1) (a+1,0) ?_ ?_ ⟨Nat.le_refl _,rfl⟩ ?_ ?_ ?_
  ·simp
  ·simp
  ·simp
  ·simp
  rintro ⟨m,c⟩ ⟨hm',hc⟩
  simp only at hm' hc
  simp
  by_cases h0:0<m
  ·have h0':(0:Int)<m:=by omega
   have hh:=o_sy h0
   have e1:(m:Int).tdiv 2=((m/2:Nat):Int):=by rw [Int.tdiv_eq_ediv_of_nonneg (by omega)];omega
   have e2:IntKind.i64.wrap ((c:Int)+1)=((c+1:Nat):Int):=by rw [w64 (by omega) (by omega)];omega
   have hlt:m/2<m:=by omega
   have e3:IntKind.i64.wrap ((m/2:Nat):Int)=((m/2:Nat):Int):=w64 (by omega) (by omega)
   generalize m/2=q at *
   refine A10 (fs h0 (fs h0' (fs e1 (fs e2 e3)))) ?_;try with_reducible exact tt
   exact ⟨q,c+1,⟨by omega,by omega⟩,hlt,Sub1.int (by omega),Sub1.refl _⟩
  ·have hz:m=0:=by omega
   subst hz
   have hcb:c=bitsN (a+1):=by
    have:bitsN 0=0:=Nat.le_zero.1 (o_ko (by decide))
    omega
   have hcS:c*(S-1)≤8192:=by rw [hcb];exact hm
   have hcI:((c:Int)*((S-1:Nat):Int))≤8192:=by
    rw [←Int.natCast_mul];omega
   have e4:IntKind.i64.wrap ((c:Int)*((S-1:Nat):Int))=(c:Int)*((S-1:Nat):Int):=w64 (by rw [←Int.natCast_mul];omega) (by omega)
   generalize S-1=V at *
   refine A10 (fs e4 hcI) ?_;try with_reducible exact tt
 ·have g3:(0:Int)≤a:=by omega
  have g4:(a:Int)≤8:=by omega
  refine A10 (fs g1 g2) ?_;try with_reducible exact tt
  refine CallS.pu (hs) (R1 e ?_);try with_reducible exact tt
  refine A10 (fs g3 g4) ?_;try with_reducible exact tt
 ·have g3:(1:Int)≤a:=by omega
  have g4:(a:Int)≤5:=by omega
  refine A10 (fs g1 g2) ?_;try with_reducible exact tt
  refine CallS.pu (hs) (R1 e ?_);try with_reducible exact tt
  refine A10 (fs g3 g4) ?_;try with_reducible exact tt
theorem o_t3 {k a b:Nat} (h:GoodR k a b):Eqn Tryz.prog o_7a [.d (parD k a b)] [] (.d (.bool true)) []:=by
 refine Eqn.pure o_7c Plain.ok ?_
 refine cc (c':=?z140) ?_ ?_
 case refine_1=>cbv<;>exact rfl
 try simp only [parD]
 rcases h with ⟨rfl,h⟩ | ⟨hk,h⟩
 ·have h1:=o_t0 h
  refine A00 ?_;try with_reducible exact tt
  refine CallS.pu (h1) (R0 ?_);try with_reducible exact tt
 ·have h1:=o_t2 h
  have hk':¬((k:Int)=4):=by omega
  refine A10 (fs hk hk') ?_;try with_reducible exact tt
  refine CallS.pu (h1) (R0 ?_);try with_reducible exact tt
theorem o_t4 {a b:Nat} (h:GoodT a b) (y t:Nat) (f:Bool):Eqn Tryz.prog o_8m [.d (.agg [.int .i64 a,.int .i64 b]),.d (tsD y t f)] [] (.d (.bool (wellTB a b y t f))) []:=by
 refine Eqn.pure o_8o Plain.ok ?_
 have g0:(0:Int)≤t:=by omega
 have g1:(0:Int)≤y:=by omega
 refine cc (c':=?z141) ?_ ?_
 case refine_1=>cbv<;>exact rfl
 try simp only [tsD,wellTB]
 by_cases hy:y≤a
 ·have hy':(y:Int)≤a:=by omega
  by_cases ht:t≤b
  ·have ht':(t:Int)≤b:=by omega
   cases f
   ·refine A10 (fs g0 (fs g1 (fs hy (fs hy' (fs ht ht'))))) ?_;try with_reducible exact tt
   ·by_cases he:t=b
    ·have he':(t:Int)=b:=by omega
     subst he
     refine A10 (fs g0 (fs g1 (fs hy hy'))) ?_;try with_reducible exact tt
    ·have he':¬(t:Int)=b:=by omega
     have hq:(t==b)=false:=by simp [he]
     refine A10 (fs g0 (fs g1 (fs hy (fs hy' (fs ht (fs ht' (fs he (fs he' hq)))))))) ?_;try with_reducible exact tt
  ·have ht':¬(t:Int)≤b:=by omega
   have he:¬t=b:=by omega
   have he':¬(t:Int)=b:=by omega
   cases f
   ·refine A10 (fs g0 (fs g1 (fs hy (fs hy' (fs ht (fs ht' (fs he he'))))))) ?_;try with_reducible exact tt
   ·refine A10 (fs g0 (fs g1 (fs hy (fs hy' (fs ht (fs ht' (fs he he'))))))) ?_;try with_reducible exact tt
 ·have hy':¬(y:Int)≤a:=by omega
  cases f
  ·refine A10 (fs g0 (fs g1 (fs hy hy'))) ?_;try with_reducible exact tt
  ·by_cases he:t=b
   ·have he':(t:Int)=b:=by omega
    subst he
    refine A10 (fs g0 (fs g1 (fs hy hy'))) ?_;try with_reducible exact tt
   ·have he':¬(t:Int)=b:=by omega
    refine A10 (fs g0 (fs g1 (fs hy (fs hy' (fs he he'))))) ?_;try with_reducible exact tt
end
section
open Go.RowKit
theorem o_t5 {k a b:Nat} (h:GoodR k a b) (y t:Nat) (f:Bool):Eqn Tryz.prog o_7d [.d (parD k a b),.d (tsD y t f)] [] (.d (.bool (wellRB k a b y t f))) []:=by
 refine Eqn.pure o_7f Plain.ok ?_
 have h1:=o_t3 h
 refine cc (c':=?z142) ?_ ?_
 case refine_1=>cbv<;>exact rfl
 try simp only [parD,tsD,wellRB] at h1 ⊢
 rcases h with ⟨rfl,h⟩ | ⟨hk,h⟩
 ·have h2:=o_t4 h y t f
  simp only [tsD,if_true] at h2 ⊢
  generalize wellTB a b y t f=w at *
  refine A00 ?_;try with_reducible exact tt
  refine CallS.pu (h1) (R0 ?_);try with_reducible exact tt
  refine A00 ?_;try with_reducible exact tt
  refine CallS.pu (h2) (R0 ?_);try with_reducible exact tt
 ·have hk':¬((k:Int)=4):=by omega
  have h2:=o_t1 k a b h.2.2
  have g0:(0:Int)≤y:=by omega
  simp only [if_neg hk]
  generalize 2^b-1=S at *
  refine A00 ?_;try with_reducible exact tt
  refine CallS.pu (h1) (R0 ?_);try with_reducible exact tt
  refine A10 (fs hk hk') ?_;try with_reducible exact tt
  by_cases ht:t=0
  ·subst ht
   by_cases hy:y≤S
   ·have hy':(y:Int)≤S:=by omega
    cases f
    ·refine CallS.pu (h2) (R1 (fs g0 (fs hy hy')) ?_);try with_reducible exact tt
    ·by_cases he:y=S
     ·have he':(y:Int)=S:=by omega
      subst he
      refine CallS.pu (h2) (R1 (fs g0 (fs hy hy')) ?_);try with_reducible exact tt
     ·have he':¬(y:Int)=S:=by omega
      have hq:(y==S)=false:=by simp [he]
      have hq':((y:Int)==S)=false:=by simp [he']
      refine CallS.pu (h2) (R1 (fs g0 (fs hy (fs hy' (fs he (fs he' (fs hq hq')))))) ?_);try with_reducible exact tt
   ·have hy':¬(y:Int)≤S:=by omega
    refine CallS.pu (h2) (R1 (fs g0 (fs hy hy')) ?_);try with_reducible exact tt
  ·have ht':¬(t:Int)=0:=by omega
   have hq:(t==0)=false:=by simp [ht]
   refine CallS.pu (h2) (R1 (fs g0 (fs ht (fs ht' hq))) ?_);try with_reducible exact tt
end
section
open Go.RowKit
end
section
open Go.RowKit
def yD (ws:List Nat):List D:=ws.map fun x:Nat=>.int .u8 x
@[simp] theorem o_t6 (ws:List Nat):(yD ws).length=ws.length:=by simp [yD]
@[simp] theorem o_t7 (n:Nat) (ws:List Nat):V.lowl n ((yD ws).map V.d)=true:=o_62 n _
@[simp] theorem o_t8 (θ:Nat→Nat) (ws:List Nat):V.rens θ ((yD ws).map V.d)=(yD ws).map V.d:=o_61 θ _
@[simp] theorem o_t9 (l:List Nat):(yD l).take l.length=yD l:=List.take_of_length_le (by simp)
end
section
open Go.RowKit
end
section
open Go.RowKit
end
section
open Go.RowKit
theorem o_ta (a w:Nat) (h1:1≤a) (h2:a≤4096) (w1:1≤w) (w2:w≤10) (hm:¬bitsN (a+1)*(2^w-1)≤8192):Eqn Tryz.prog o_dh [.d (.agg [.int .i64 1,.int .i64 a,.int .i64 w])] [] (.d (.int .i64 10)) []:=by
 refine Eqn.pure o_dj (o_5e _) ?_
 refine cc (c':=?z143) ?_ ?_
 case refine_1=>cbv<;>exact rfl
 have hk:=o_p3 1 a w
 rw [kindD,if_pos rfl] at hk
 have hg:=o_p1 a
 rw [show decide (1≤(a:Int)∧(a:Int)≤4096)=true by simp;omega] at hg
 have g1:¬(w:Int)<1:=by omega
 have g2:¬(10:Int)<w:=by omega
 refine G0 ?_;try with_reducible exact tt
 refine CallS.pu (hk) (R1 (fs g1 g2) ?_);try with_reducible exact tt
 refine ⟨_,o_oy,?_⟩
 refine CallS.pu (hg) (R1 (fs g1 g2) ?_);try with_reducible exact tt
 refine AW.cond rfl (fun h=>?_) (fun h=>?_)
 ·simp [g1,g2] at h
 clear h
 have e1:IntKind.i64.wrap ((a:Int)+1)=((a+1:Nat):Int):=w64 (by omega) (by omega)
 have e2:IntKind.u64.wrap ((a+1:Nat):Int)=((a+1:Nat):Int):=wu64 (by omega) (by omega)
 have hb:=o_q1 (a+1) (by omega)
 have hbl:bitsN (a+1)≤13:=o_ko (by omega)
 have h2':0<2^w:=Nat.two_pow_pos w
 have h2:2^w≤1024:=Nat.pow_le_pow_right (n:=2) (by omega) w2
 have e0:(2:Int)^w=(2^w:Nat):=by rw [Int.natCast_pow];rfl
 have hml:bitsN (a+1)*(2^w-1)≤13*1024:=Nat.mul_le_mul hbl (by omega)
 generalize 2^w=S at *
 generalize bitsN (a+1)=B at *
 generalize a+1=a1 at *
 have e3:IntKind.i64.wrap (S:Int)=S:=w64 (by omega) (by omega)
 have e4:IntKind.i64.wrap ((S:Int)-1)=((S-1:Nat):Int):=by rw [w64 (by omega) (by omega)];omega
 have e5:IntKind.i64.wrap ((B:Int)*((S-1:Nat):Int))=((B*(S-1):Nat):Int):=by
  rw [←Int.natCast_mul]
  generalize B*(S-1)=x at *
  exact w64 (by omega) (by omega)
 have g3:(8192:Int)<((B*(S-1):Nat):Int):=by omega
 generalize hS1:S-1=S1 at *
 obtain ⟨x,hx⟩:∃x,x=B*S1:=⟨_,rfl⟩
 rw [←hx] at e5 g3
 refine G1 (fs e1 e2) ?_;try with_reducible exact tt
 refine CallS.pu (hb) (R1 (fs e0 (fs e3 (fs e4 (fs e5 g3)))) ?_);try with_reducible exact tt
 refine AW.cond rfl (fun h=>?_) (fun h=>?_)
 ·refine G0 ?_;try with_reducible exact tt
 ·simp [g3] at h

theorem o_tb {k a w:Int} (hk:Eqn Tryz.prog o_cz [.d (.agg [.int .i64 k,.int .i64 a,.int .i64 w])] [] (.d .nilifc) []):Eqn Tryz.prog o_dh [.d (.agg [.int .i64 k,.int .i64 a,.int .i64 w])] [] (.d (.int .i64 10)) []:=by
 refine Eqn.pure o_dj (o_5e _) ?_
 refine cc (c':=?z144) ?_ ?_
 case refine_1=>cbv<;>exact rfl
 refine A00 ?_;try with_reducible exact tt
 refine CallS.pu (hk) (R0 ?_);try with_reducible exact tt
 refine A00 ?_;try with_reducible exact tt
end
section
open Go.RowKit
def more (S:Nat→Bool) (i:Nat):Nat→Bool:=fun j=>S j || j==i
section
variable {P:Program} {ops:Array Oper} {Q:Exit→Act→World→Prop} {FT:(Nat→Bool)→List V} {FH:(Nat→Bool)→List (Option Ob)} {good:(Nat→Bool)→Prop} {N:Nat}

end
end
section
open Go.RowKit
def valF (d k:Nat):Nat:=(2^d+k%2^d)*2^(k/2^d)-2^d
def valC (k a y:Nat):Rat:=if k=1 then valM a y else if k=2 then ((valF a y:Nat):Rat) else (((placeY a y).value:Nat):Rat)
end
section
open Go.RowKit
def valR (k a b y t:Nat):Rat:=if k=4 then ((y*2^t:Nat):Rat) else valC k a y
end
section
open Go.RowKit
def hP:Nat:=2305843009213693951
def hsum (a b key:Nat):Nat:=(a*key%hP+b)%hP
end
section
open Go.RowKit
end
section
open Go.RowKit
def txtZ (z:Int):ByteArray:=if z<0 then ⟨#[45]⟩++txt z.natAbs else txt z.natAbs
def txtQ (q:Rat):ByteArray:=if q.den=1 then txtZ q.num else txtZ q.num++⟨#[47]⟩++txt q.den
theorem o_tc (n:Nat):(txt n).size=ndig n:=by
 unfold txt bst
 show ((decN n).map UInt8.ofNat).toArray.size=ndig n
 simp [o_rg]
theorem o_td {n E:Nat} (h:n<2^E) (h0:0<E):(txt n).size≤E:=by
 rw [o_tc]
 exact o_r9 n E (Nat.lt_of_lt_of_le h (Nat.pow_le_pow_left (by decide) E)) h0
theorem o_te (n:Nat):n<2^(64*size n):=by
 have h:=o_ig (o_jc n)
 rw [o_jb] at h
 rw [Nat.pow_mul]
 exact h
theorem o_tf {n:Nat} (h:size n≤1000):(txt n).size≤64000:=by
 obtain ⟨k,hk⟩:∃k,k=64000:=⟨_,rfl⟩
 rw [←hk]
 exact o_td (Nat.lt_of_lt_of_le (o_te n) (Nat.pow_le_pow_right (by decide) (by omega))) (by omega)
theorem o_tg {z:Int} (h:size z.natAbs≤1000):(txtZ z).size≤64001:=by
 have:=o_tf h
 unfold txtZ
 split
 ·rw [ByteArray.size_append]
  show 1+_≤_
  omega
 ·omega
theorem o_th (z:Int) (h:size z.natAbs≤1000):Eqn Tryz.prog o_9d [.d (wD z)] [] (.d (.str (txtZ z))) []:=by
 refine Eqn.pure o_9f (o_5e _) ?_
 have h1:=o_sn z.natAbs h
 have hs:=o_tf h
 have e:txtZ z=if z<0 then ⟨#[45]⟩++txt z.natAbs else txt z.natAbs:=rfl
 refine cc (c':=?z158) ?_ ?_
 case refine_1=>cbv<;>exact rfl
 try simp only [wD]
 by_cases hz:z<0
 ·rw [if_pos hz] at e
  rw [e]
  have hd:decide (z<0)=true:=by simp [hz]
  have hl:(⟨#[45]⟩:ByteArray).size=1:=rfl
  rw [hd]
  generalize txt z.natAbs=S at *
  generalize natW z.natAbs=N at *
  refine A11 hl h1 ?_;try with_reducible exact tt
 ·rw [if_neg hz] at e
  rw [e]
  have hd:decide (z<0)=false:=by simp;omega
  rw [hd]
  generalize txt z.natAbs=S at *
  generalize natW z.natAbs=N at *
  refine A01 h1 ?_;try with_reducible exact tt
theorem o_ti (q:Rat) (h:RS q 1000):Eqn Tryz.prog o_7m [.d (rD q)] [] (.d (.str (txtQ q))) []:=by
 refine Eqn.pure o_7o (o_5e _) ?_
 have hwh:Eqn Tryz.prog o_9a [.d (rD q)] [] (.d (.bool (q.den-1==0))) []:=by
  refine Eqn.pure o_9c Plain.ok ?_
  have hz:=o_jm (q.den-1)
  refine cc (c':=?z159) ?_ ?_
  case refine_1=>cbv<;>exact rfl
  try simp only [rD]
  generalize (q.den-1==0)=b at *
  generalize natW (q.den-1)=N at *
  refine A01 hz ?_;try with_reducible exact tt
 have hpos:=q.den_pos
 have h1:=o_th q.num h.1
 have h2:=o_o2 q (by have:=h.2;omega)
 have h3:=o_sn q.den h.2
 have s1:=o_tg h.1
 have s2:=o_tf h.2
 have e:txtQ q=if q.den=1 then txtZ q.num else txtZ q.num++⟨#[47]⟩++txt q.den:=rfl
 refine cc (c':=?z160) ?_ ?_
 case refine_1=>cbv<;>exact rfl
 try simp only [rD,wD] at *
 by_cases hd:q.den=1
 ·rw [if_pos hd] at e
  rw [e]
  rw [show (q.den-1==0)=true by simp;omega] at hwh
  generalize txtZ q.num=S at *
  generalize natW (q.den-1)=N2 at *
  generalize natW q.num.natAbs=N at *
  generalize decide (q.num<0)=b at *
  refine A02 hwh h1 ?_;try with_reducible exact tt
 ·rw [if_neg hd] at e
  rw [e]
  rw [show (q.den-1==0)=false by simp;omega] at hwh
  generalize txtZ q.num=S at *
  generalize txt q.den=S2 at *
  generalize natW q.den=N3 at *
  generalize natW (q.den-1)=N2 at *
  generalize natW q.num.natAbs=N at *
  generalize decide (q.num<0)=b at *
  have hl:(⟨#[47]⟩:ByteArray).size=1:=rfl
  refine A14 hl hwh h1 h2 h3 ?_;try with_reducible exact tt
end
section
open Go.RowKit
end
section
open Go.RowKit
end
section
open Go.RowKit
theorem AW.meet {P:Program} {L:Nat} {Q Q2:Exit→List V→List (Option Ob)→Prop} {T:List V} {H:List (Option Ob)} {x y:C} (T1:List V) (H1:List (Option Ob)) (hL:L≤H1.length)
  (h1:AW P L x (thenQ (fun T' H'=>wk H1.length T' T1∧wkH H1.length H' H1) Q) T H) (h2:AW P L y Q2 T1 H1):AW P L x (thenQ (AW P L y Q2) Q) T H:=by
 intro code hc m0 m a sat hle htop hL'
 refine wp_mono (h1 code hc m0 m a sat hle htop hL') ?_
 rintro e a' w' ⟨T',H',m',rfl,hq,rest⟩
 refine ⟨T',H',m',rfl,?_,rest⟩
 cases e with
 | normal =>
  obtain ⟨w1,w2⟩:=hq
  exact AW.weak (Weak.of w1 w2) hL h2
 | _=>exact hq
end
section
open Go.RowKit
theorem o_tj {W:World} {g0:Nat} {zs:List Int} (ht:∀g l,tab g=some l→g=g0∧l=zs.map fun z:Int=>D.int .u64 z) (hlt:g0<W.heap.size) (hc:∀(i:Nat) u,(zs.map (Value.int .u64))[i]?=some u→W.cell? ⟨g0,i,none⟩=some u):Tabs (memW W):=by
 intro g l hg
 obtain ⟨rfl,rfl⟩:=ht g l hg
 unfold D.rep
 refine ⟨g,0,rfl,hlt,zs.map (Value.int .u64),fun u hu=>?_,reps_of (fun z:Int=>D.int .u64 z) (Value.int .u64) (fun _=>by unfold D.rep;rfl) zs,fun i u hu=>?_⟩
 ·obtain ⟨z,-,rfl⟩:=List.mem_map.1 hu
  rfl
 ·rw [Nat.zero_add];exact hc i u hu
end
section
open Go.RowKit

theorem tabsIn {W:World} {g0:Nat} {zs:List Int} (ht:∀g l,tab g=some l→g=g0∧l=zs.map fun z:Int=>D.int .u64 z) (hlt:g0<W.heap.size) (hc:∀(i:Nat) u,(zs.map (Value.int .u64))[i]?=some u→W.cell? ⟨g0,i,none⟩=some u):Tabs (memW W):=o_tj ht hlt hc
theorem tabAll:∀g l,tab g=some l→g=2∧l=([1,10,100,1000,10000,100000,1000000,10000000,100000000,1000000000,10000000000,100000000000,1000000000000,10000000000000,100000000000000,1000000000000000,10000000000000000,100000000000000000,1000000000000000000,10000000000000000000]:List Int).map fun z:Int=>D.int .u64 z:=by
 intro g l h
 unfold tab at h
 split at h
 ·cases h
  exact ⟨‹_›,rfl⟩
 ·cases h
end
section
open Go.RowKit
@[simp] theorem o_tk (l:List D):V.toDs (l.map .d)=some l:=by induction l<;>simp_all [V.toDs]
abbrev St:=Nat×Nat×Bool
def stD (s:St):List D:=[.int .i64 s.1,.int .i64 s.2.1,.bool s.2.2]
@[simp] theorem o_tl (s:St):(stD s).length=3:=rfl
theorem o_tm (s t:St):eqKs [0,0,1] (stD s) (stD t)=some (decide (s=t)):=by
 obtain ⟨a,b,c⟩:=s
 obtain ⟨a',b',c'⟩:=t
 unfold stD eqKs
 simp only [eqK,if_true,eqKs]
 simp only [Option.some.injEq,Bool.and_true]
 rw [Bool.eq_iff_iff]
 simp only [Bool.and_eq_true,beq_iff_eq,decide_eq_true_eq,Prod.mk.injEq]
 constructor
 ·rintro ⟨h1,h2,h3⟩;exact ⟨by omega,by omega,h3⟩
 ·rintro ⟨h1,h2,h3⟩;exact ⟨by omega,by omega,h3⟩

abbrev Sp:=List (St×Rat)
section
variable (rc:Rat→List D) (hrc:∀q,(rc q).length=3)
def spD (l:Sp):List D:=l.flatMap fun p=>stD p.1++rc p.2
theorem o_tn (rc:Rat→List D) (hrc:∀q,(rc q).length=3) (l:Sp):(spD rc l).length=l.length*6:=by
 induction l with
 | nil=>rfl
 | cons p l ih=>rw [spD,List.flatMap_cons,List.length_append,←spD,ih];simp [hrc];omega
def idxQ (s:St):Sp→Option Nat
 | []=>none
 | p::l=>if s=p.1 then some 0 else (idxQ s l).map (·+1)
theorem o_to (rc:Rat→List D) (hrc:∀q,(rc q).length=3) (s:St):∀l:Sp,mfind [0,0,1] 3 (stD s) l.length (spD rc l)=some (idxQ s l)
 | []=>rfl
 | p::l=>by
  have e1:(spD rc (p::l)).take 3=stD p.1:=by
   rw [spD,List.flatMap_cons,List.append_assoc,List.take_append_of_le_length (by simp),List.take_of_length_le (by simp)]
  have e2:(spD rc (p::l)).drop 6=spD rc l:=by
   rw [spD,List.flatMap_cons,List.drop_append,List.drop_eq_nil_of_le (by simp [hrc]),List.nil_append]
   simp [hrc,spD]
  simp only [List.length_cons,mfind,List.length_nil]
  rw [e1,o_tm,e2]
  by_cases h:s=p.1
  ·simp [h,idxQ]
  ·simp only [h,decide_false]
   rw [o_to rc hrc s l]
   simp [idxQ,h]
def getQ (l:Sp) (s:St):Rat:=match l with
 | []=>0
 | p::r=>if s=p.1 then p.2 else getQ r s
def setQ (l:Sp) (s:St) (q:Rat):Sp:=match l with
 | []=>[(s,q)]
 | p::r=>if s=p.1 then (s,q)::r else p::setQ r s q
theorem o_tp (s t:St) (q:Rat):∀l:Sp,getQ (setQ l s q) t=if t=s then q else getQ l t
 | []=>by simp [setQ,getQ]
 | p::r=>by
  unfold setQ
  split
  ·rename_i e
   unfold getQ
   by_cases h:t=s
   ·simp [h]
   ·simp [h,show ¬t=p.1 from fun h'=>h (h'.trans e.symm)]
  ·rename_i e
   unfold getQ
   rw [o_tp s t q r]
   by_cases h:t=s
   ·subst h;simp [e]
   ·simp [h]
theorem o_tq (s:St) (q:Rat):∀l:Sp,(setQ l s q).map (·.1)=if s∈l.map (·.1) then l.map (·.1) else l.map (·.1)++[s]
 | []=>by simp [setQ]
 | p::r=>by
  unfold setQ
  split
  ·rename_i e;simp [e]
  ·rename_i e
   simp only [List.map_cons,o_tq s q r,List.mem_cons]
   by_cases h:s∈r.map (·.1)
   ·simp [h]
   ·simp [h,e]
theorem o_tr {s:St} {q:Rat} {l:Sp} (h:(l.map (·.1)).Nodup):((setQ l s q).map (·.1)).Nodup:=by
 rw [o_tq]
 split
 ·exact h
 ·rename_i hs
  rw [List.nodup_append]
  refine ⟨h,by simp,fun a ha b hb=>?_⟩
  simp at hb;subst hb
  exact fun e=>hs (e▸ha)
def lookD (z:List D) (s:St):Sp→D
 | []=>.agg z
 | p::r=>if s=p.1 then .agg (rc p.2) else lookD z s r
theorem o_ts (rc:Rat→List D) (hrc:∀q,(rc q).length=3) (s:St) (l:Sp) (z:List D):mlook [0,0,1] 3 true z (stD s) (spD rc l)=some (lookD rc z s l):=by
 unfold mlook
 have hn:(spD rc l).length/([0,0,1].length+3)=l.length:=by rw [o_tn rc hrc];simp
 rw [hn,o_to rc hrc]
 simp only [Option.map_some,Option.some.injEq]
 have key:∀l:Sp,(match idxQ s l with
   | some i=>glD true (((spD rc l).drop (i*([0,0,1].length+3)+[0,0,1].length)).take 3)
   | none=>glD true z)=lookD rc z s l:=by
  intro l
  induction l with
  | nil=>simp [idxQ,glD,lookD]
  | cons p l ih =>
   by_cases h:s=p.1
   ·have e1:((spD rc (p::l)).drop 3).take 3=rc p.2:=by
     rw [spD,List.flatMap_cons,List.append_assoc,List.drop_append,List.drop_eq_nil_of_le (by simp),List.nil_append]
     simp [hrc]
    simp [idxQ,h,lookD,glD,e1]
   ·have e2:(spD rc (p::l)).drop 6=spD rc l:=by
     rw [spD,List.flatMap_cons,List.drop_append,List.drop_eq_nil_of_le (by simp [hrc]),List.nil_append]
     simp [hrc,spD]
    rw [lookD,if_neg h,←ih]
    simp only [idxQ,if_neg h]
    cases hi:idxQ s l with
    | none=>rfl
    | some i =>
     simp only [Option.map_some]
     have:(i+1)*([0,0,1].length+3)+[0,0,1].length=6+(i*([0,0,1].length+3)+[0,0,1].length):=by simp;omega
     rw [this,←List.drop_drop,e2]
 exact key l
theorem o_tt (rc:Rat→List D) (hrc:∀q,(rc q).length=3) (s:St) (l:Sp) (q:Rat):mset [0,0,1] 3 (stD s) (rc q) (spD rc l)=some (spD rc (setQ l s q)):=by
 unfold mset
 have hn:(spD rc l).length/([0,0,1].length+3)=l.length:=by rw [o_tn rc hrc];simp
 rw [hn,o_to rc hrc]
 simp only [Option.map_some,Option.some.injEq]
 have key:∀l:Sp,(match idxQ s l with
   | some i=>(spD rc l).take (i*([0,0,1].length+3))++(stD s++rc q)++(spD rc l).drop ((i+1)*([0,0,1].length+3))
   | none=>spD rc l++(stD s++rc q))=spD rc (setQ l s q):=by
  intro l
  induction l with
  | nil=>simp [idxQ,setQ,spD]
  | cons p l ih =>
   have e2:(spD rc (p::l)).drop 6=spD rc l:=by
    rw [spD,List.flatMap_cons,List.drop_append,List.drop_eq_nil_of_le (by simp [hrc]),List.nil_append]
    simp [hrc,spD]
   have e3:spD rc (p::l)=(stD p.1++rc p.2)++spD rc l:=by rw [spD,List.flatMap_cons];rfl
   by_cases h:s=p.1
   ·simp only [idxQ,if_pos h,setQ]
    simp only [Nat.zero_mul,List.take_zero,Nat.zero_add,Nat.one_mul,List.nil_append]
    rw [show [0,0,1].length+3=6 from rfl,e2]
    rw [show spD rc ((s,q)::l)=(stD s++rc q)++spD rc l by rw [spD,List.flatMap_cons];rfl]
   ·simp only [idxQ,if_neg h,setQ]
    rw [show spD rc (p::setQ l s q)=(stD p.1++rc p.2)++spD rc (setQ l s q) by rw [spD,List.flatMap_cons];rfl,←ih]
    have hl6:(stD p.1++rc p.2).length=6:=by simp [hrc]
    cases hi:idxQ s l with
    | none=>simp only [Option.map_none];rw [e3];simp
    | some i =>
     simp only [Option.map_some]
     rw [show [0,0,1].length+3=6 from rfl]
     have t1:(spD rc (p::l)).take ((i+1)*6)=(stD p.1++rc p.2)++(spD rc l).take (i*6):=by
      rw [e3,List.take_append,List.take_of_length_le (by omega),hl6,show (i+1)*6-6=i*6 by omega]
     have t2:(spD rc (p::l)).drop ((i+1+1)*6)=(spD rc l).drop ((i+1)*6):=by
      rw [show (i+1+1)*6=6+(i+1)*6 by omega,←List.drop_drop,e2]
     rw [t1,t2]
     simp
 exact key l
end
end
section
open Go.RowKit
def addQ (l:Sp) (s:St) (x:Rat):Sp:=setQ l s (getQ l s+x)
def exQ (g:St→Rat):Sp→Rat
 | []=>0
 | p::l=>p.2*g p.1+exQ g l
def Uq (l:Sp):Prop:=(l.map (·.1)).Nodup
theorem o_tu (g:St→Rat) (s:St) (q:Rat):∀l:Sp,Uq l→exQ g (setQ l s q)=exQ g l-getQ l s*g s+q*g s
 | [],_=>by simp only [setQ,exQ,getQ];grind
 | p::r,h=>by
  have h':Uq r:=by unfold Uq at h ⊢;simp at h;exact h.2
  unfold setQ getQ
  split
  ·rename_i e
   simp only [exQ]
   rw [e];grind
  ·simp only [exQ]
   rw [o_tu g s q r h'];grind
theorem o_tv {s:St} {q:Rat} {l:Sp} (h:Uq l):Uq (addQ l s q):=o_tr h
theorem o_tw (g:St→Rat) (s:St) (q:Rat) (l:Sp) (h:Uq l):exQ g (addQ l s q)=exQ g l+q*g s:=by
 unfold addQ;rw [o_tu g s _ l h];grind
theorem o_tx (g:St→Rat) {l k:Sp} (h:l.Perm k):exQ g l=exQ g k:=by
 induction h with
 | nil=>rfl
 | cons x _ ih=>simp only [exQ,ih]
 | swap x y l=>simp only [exQ];grind
 | trans _ _ h1 h2=>rw [h1,h2]
theorem o_ty (g:St→Rat) (l k:Sp):exQ g (l++k)=exQ g l+exQ g k:=by
 induction l with
 | nil=>simp only [List.nil_append,exQ];grind
 | cons p l ih=>simp only [List.cons_append,exQ,ih];grind
theorem o_tz (g:St→Rat) (l:Sp):exQ g (l.filter fun p=>decide (p.2≠0))=exQ g l:=by
 induction l with
 | nil=>rfl
 | cons p l ih =>
  rw [List.filter_cons]
  split
  ·simp only [exQ,ih]
  ·rename_i h
   have:p.2=0:=by simpa using h
   simp only [exQ,ih,this];grind
def ltS (s t:St):Bool:=decide (s.1<t.1) || (decide (s.1=t.1)&&(decide (s.2.1<t.2.1) || (decide (s.2.1=t.2.1)&&(!s.2.2&&t.2.2))))
theorem o_u0 (s:St):ltS s s=false:=by unfold ltS;simp
theorem o_u1 {s t u:St} (h1:ltS s t=true) (h2:ltS t u=true):ltS s u=true:=by
 obtain ⟨a,b,c⟩:=s;obtain ⟨a',b',c'⟩:=t;obtain ⟨a2,b2,c2⟩:=u
 unfold ltS at *
 simp only [Bool.or_eq_true,Bool.and_eq_true,decide_eq_true_eq,Bool.not_eq_true'] at *
 rcases h1 with h1 | ⟨h1,h1' | ⟨h1',h3,h4⟩⟩<;>rcases h2 with h2 | ⟨h2,h2' | ⟨h2',h5,h6⟩⟩<;>first | (left;omega) | (right;refine ⟨by omega,?_⟩;first | (left;omega) | (right;exact ⟨by omega,by assumption,by assumption⟩))
theorem o_u2 (s t:St):ltS s t=true∨s=t∨ltS t s=true:=by
 obtain ⟨a,b,c⟩:=s;obtain ⟨a',b',c'⟩:=t
 unfold ltS
 simp only [Bool.or_eq_true,Bool.and_eq_true,decide_eq_true_eq,Bool.not_eq_true',Prod.mk.injEq]
 rcases Nat.lt_trichotomy a a' with h | h | h
 ·left;left;exact h
 ·rcases Nat.lt_trichotomy b b' with h2 | h2 | h2
  ·left;right;exact ⟨h,.inl h2⟩
  ·cases c<;>cases c'<;>simp [h,h2]
  ·right;right;right;exact ⟨h.symm,.inl h2⟩
 ·right;right;left;exact h
def leP (p q:St×Rat):Bool:=!(ltS q.1 p.1)
theorem o_u3 (a b c:St×Rat) (h1:leP a b=true) (h2:leP b c=true):leP a c=true:=by
 unfold leP at *
 simp only [Bool.not_eq_true'] at *
 cases h:ltS c.1 a.1 with
 | false=>rfl
 | true =>
  rcases o_u2 b.1 c.1 with h3 | h3 | h3
  ·rw [o_u1 h3 h] at h1;cases h1
  ·rw [h3,h] at h1;cases h1
  ·rw [h3] at h2;cases h2
theorem o_u4 (a b:St×Rat):leP a b || leP b a:=by
 unfold leP
 rcases o_u2 a.1 b.1 with h | h | h
 ·have:ltS b.1 a.1=false:=by
   cases h2:ltS b.1 a.1 with
   | false=>rfl
   | true=>have:=o_u1 h h2;rw [o_u0] at this;cases this
  simp [this]
 ·simp [h,o_u0]
 ·have:ltS a.1 b.1=false:=by
   cases h2:ltS a.1 b.1 with
   | false=>rfl
   | true=>have:=o_u1 h h2;rw [o_u0] at this;cases this
  simp [this]
def nzQ (l:Sp):Sp:=l.filter fun p=>decide (p.2≠0)
def atQ (l:Sp):Sp:=(nzQ l).mergeSort leP
theorem o_u5 (l:Sp):(atQ l).Perm (nzQ l):=List.mergeSort_perm _ _
theorem o_u6 (g:St→Rat) (l:Sp):exQ g (atQ l)=exQ g l:=by rw [o_tx g (o_u5 l)];exact o_tz g l
theorem o_u7 {l:Sp} (h:Uq l):Uq (nzQ l):=by
 unfold Uq nzQ at *
 exact List.Sublist.nodup ((List.filter_sublist (l:=l)).map _) h
theorem o_u8 {l:Sp} (h:Uq l):Uq (atQ l):=by
 unfold Uq
 exact ((o_u5 l).map _).nodup_iff.2 (o_u7 h)
theorem o_u9 {a b:St×Rat}:∀{l:Sp},Uq l→a∈l→b∈l→a.1=b.1→a=b
 | [],_,h,_,_=>by cases h
 | p::l,hu,ha,hb,e=>by
  unfold Uq at hu
  rw [List.map_cons,List.nodup_cons] at hu
  rcases List.mem_cons.1 ha with h1 | h1<;>rcases List.mem_cons.1 hb with h2 | h2
  ·rw [h1,h2]
  ·exact absurd (show p.1∈l.map (·.1) from List.mem_map.2 ⟨b,h2,by rw [←e,h1]⟩) hu.1
  ·exact absurd (show p.1∈l.map (·.1) from List.mem_map.2 ⟨a,h1,by rw [e,h2]⟩) hu.1
  ·exact o_u9 hu.2 h1 h2 e
theorem o_ua {l k:Sp} (hu:Uq l) (hp:k.Perm (nzQ l)) (hs:k.Pairwise fun a b=>ltS a.1 b.1=true):k=atQ l:=by
 have h2:(atQ l).Pairwise fun a b=>leP a b=true:=List.pairwise_mergeSort o_u3 o_u4 _
 refine List.Perm.eq_of_pairwise (le:=fun a b=>leP a b=true) ?_ (hs.imp ?_) h2 (hp.trans (o_u5 l).symm)
 ·intro a b ha hb h3 h4
  have ha':a∈nzQ l:=hp.mem_iff.1 ha
  have hb':b∈nzQ l:=(o_u5 l).mem_iff.1 hb
  have:a.1=b.1:=by
   unfold leP at h3 h4
   rcases o_u2 a.1 b.1 with h | h | h
   ·rw [h] at h4;simp at h4
   ·exact h
   ·rw [h] at h3;simp at h3
  exact o_u9 (o_u7 hu) ha' hb' this
 ·intro a b h
  unfold leP
  cases h2:ltS b.1 a.1 with
  | false=>rfl
  | true=>have:=o_u1 h h2;rw [o_u0] at this;cases this
theorem o_ub (s:St):∀l:Sp,Uq l→getQ l s=exQ (fun t=>if t=s then 1 else 0) l
 | [],_=>rfl
 | p::r,h=>by
  have h':Uq r:=by unfold Uq at h ⊢;simp at h;exact h.2
  unfold getQ exQ
  split
  ·rename_i e
   have hz:exQ (fun t=>if t=s then (1:Rat) else 0) r=0:=by
    rw [←o_ub s r h']
    have hn:s∉r.map (·.1):=by unfold Uq at h;rw [List.map_cons,List.nodup_cons] at h;rw [e];exact h.1
    clear h h'
    induction r with
    | nil=>rfl
    | cons q r ih =>
     simp only [List.map_cons,List.mem_cons,not_or] at hn
     unfold getQ
     rw [if_neg hn.1]
     exact ih hn.2
   rw [hz,if_pos e.symm];grind
  ·rename_i e
   rw [o_ub s r h',if_neg fun e'=>e e'.symm];grind
def innQ (q:Rat) (out l:Sp):Sp:=l.foldl (fun o b=>addQ o b.1 (q*b.2)) out
def timesQ (next:St→Sp) (l:Sp):Sp:=(atQ l).foldl (fun out a=>innQ a.2 out (atQ (next a.1))) []
def eitQ (x:Rat) (s o:St):Sp:=addQ (addQ [] s x) o (1-x)
def stepQ (top:Nat) (c:Nat→Rat) (s:St):Sp:=if s.1=top then [((s.1,s.2.1,true),1)] else eitQ (c s.1) (s.1+1,s.2) s
def ofQ (next:St→Sp) (s:St):Nat→Sp
 | 0=>[(s,1)]
 | n+1=>timesQ next (ofQ next s n)
theorem o_uc (g:St→Rat) (q:Rat):∀(l out:Sp),Uq out→Uq (innQ q out l)∧exQ g (innQ q out l)=exQ g out+q*exQ g l
 | [],out,h=>⟨h,by simp only [innQ,List.foldl_nil,exQ];grind⟩
 | b::l,out,h=>by
  obtain ⟨h1,h2⟩:=o_uc g q l (addQ out b.1 (q*b.2)) (o_tv h)
  refine ⟨h1,?_⟩
  show exQ g (innQ q (addQ out b.1 (q*b.2)) l)=_
  rw [h2,o_tw g _ _ _ h]
  simp only [exQ];grind
theorem o_ud (g:St→Rat) (next:St→Sp):∀(l out:Sp),Uq out→Uq (l.foldl (fun out a=>innQ a.2 out (atQ (next a.1))) out)∧exQ g (l.foldl (fun out a=>innQ a.2 out (atQ (next a.1))) out)=exQ g out+exQ (fun s=>exQ g (next s)) l
 | [],out,h=>⟨h,by simp only [List.foldl_nil,exQ];grind⟩
 | a::l,out,h=>by
  obtain ⟨h0,h3⟩:=o_uc g a.2 (atQ (next a.1)) out h
  obtain ⟨h1,h2⟩:=o_ud g next l (innQ a.2 out (atQ (next a.1))) h0
  refine ⟨h1,?_⟩
  show exQ g (l.foldl (fun out a=>innQ a.2 out (atQ (next a.1))) (innQ a.2 out (atQ (next a.1))))=_
  rw [h2,h3,o_u6]
  simp only [exQ];grind
theorem o_ue (next:St→Sp) (l:Sp):Uq (timesQ next l):=(o_ud (fun _=>0) next (atQ l) [] (by simp [Uq])).1
theorem o_uf (g:St→Rat) (next:St→Sp) (l:Sp):exQ g (timesQ next l)=exQ (fun s=>exQ g (next s)) l:=by
 have h:=(o_ud g next (atQ l) [] (by simp [Uq])).2
 rw [o_u6] at h
 have e:exQ g []=0:=rfl
 rw [e] at h
 unfold timesQ
 rw [h];grind
theorem o_ug (next:St→Sp) (s:St):∀n,Uq (ofQ next s n)
 | 0=>by simp [ofQ,Uq]
 | n+1=>o_ue _ _
theorem o_uh (g:St→Rat) (x:Rat) (s o:St):Uq (eitQ x s o)∧exQ g (eitQ x s o)=x*g s+(1-x)*g o:=by
 have h0:Uq ([]:Sp):=by simp [Uq]
 refine ⟨o_tv (o_tv h0),?_⟩
 unfold eitQ
 rw [o_tw g _ _ _ (o_tv h0),o_tw g _ _ _ h0]
 simp only [exQ];grind
theorem o_ui (g:St→Rat) (top:Nat) (c:Nat→Rat) (s:St):Uq (stepQ top c s)∧exQ g (stepQ top c s)=if s.1=top then g (s.1,s.2.1,true) else c s.1*g (s.1+1,s.2)+(1-c s.1)*g s:=by
 unfold stepQ
 split
 ·refine ⟨by simp [Uq],?_⟩
  simp only [exQ];grind
 ·exact o_uh g _ _ _
def okQ (top:Nat) (s:St):Prop:=s.1≤top∧s.2.1=0∧(s.2.2=true→s.1=top)
def oklQ (top:Nat) (l:Sp):Prop:=∀p∈l,okQ top p.1∧0≤p.2
theorem o_uj {l:Sp} {s:St} {q:Rat} {p:St×Rat} (h:p∈setQ l s q):p∈l∨p=(s,q):=by
 induction l with
 | nil=>simp [setQ] at h;exact .inr h
 | cons r l ih =>
  unfold setQ at h
  split at h
  ·rcases List.mem_cons.1 h with h | h
   ·exact .inr h
   ·exact .inl (by simp [h])
  ·rcases List.mem_cons.1 h with h | h
   ·exact .inl (by simp [h])
   ·exact (ih h).imp (fun h=>by simp [h]) id
theorem o_uk {top:Nat} {l:Sp} (h:oklQ top l) (s:St):0≤getQ l s:=by
 induction l with
 | nil=>exact Rat.le_refl
 | cons p l ih =>
  unfold getQ
  split
  ·exact (h p (by simp)).2
  ·exact ih fun q hq=>h q (by simp [hq])
theorem o_ul {top:Nat} {l:Sp} (h:oklQ top l) {s:St} {q:Rat} (hs:okQ top s) (hq:0≤q):oklQ top (addQ l s q):=by
 intro p hp
 rcases o_uj hp with hp | rfl
 ·exact h p hp
 ·refine ⟨hs,?_⟩
  have:=o_uk h s
  show 0≤getQ l s+q
  grind
theorem o_um {top:Nat} {l:Sp} (h:oklQ top l):oklQ top (atQ l):=fun p hp=>h p (List.mem_filter.1 ((o_u5 l).mem_iff.1 hp)).1
theorem o_un {top:Nat} {q:Rat} (hq:0≤q):∀{l out:Sp},oklQ top out→oklQ top l→oklQ top (innQ q out l)
 | [],out,h,_=>h
 | b::l,out,h,hl=>by
  obtain ⟨h1,h2⟩:=hl b (by simp)
  exact o_un (out:=addQ out b.1 (q*b.2)) (l:=l) hq (o_ul h h1 (Rat.mul_nonneg hq h2)) fun p hp=>hl p (by simp [hp])
theorem o_uo {top:Nat} {next:St→Sp} (hn:∀s,okQ top s→oklQ top (next s)) {l:Sp} (h:oklQ top l):oklQ top (timesQ next l):=by
 have key:∀(k out:Sp),oklQ top out→oklQ top k→oklQ top (k.foldl (fun out a=>innQ a.2 out (atQ (next a.1))) out):=by
  intro k
  induction k with
  | nil=>intro out h _;exact h
  | cons a k ih =>
   intro out ho hk
   obtain ⟨h1,h2⟩:=hk a (by simp)
   exact ih _ (o_un h2 ho (o_um (hn _ h1))) fun p hp=>hk p (by simp [hp])
 exact key _ _ (fun p hp=>by cases hp) (o_um h)
theorem o_up {top:Nat} {c:Nat→Rat} (h0:∀k,k<top→0≤c k) (h1:∀k,k<top→c k≤1) {s:St} (hs:okQ top s):oklQ top (stepQ top c s):=by
 obtain ⟨a,b,f⟩:=s
 obtain ⟨s1,s2,s3⟩:=hs
 simp only at s1 s2 s3
 unfold stepQ
 split
 ·rename_i e
  intro p hp
  simp at hp;subst hp
  refine ⟨⟨s1,s2,fun _=>e⟩,?_⟩
  exact (by decide:(0:Rat)≤1)
 ·rename_i e
  have hlt:a<top:=by simp only at e;omega
  have e0:=h0 a hlt
  have e1:=h1 a hlt
  have hf:f=false:=by
   cases f with
   | false=>rfl
   | true=>exact absurd (s3 rfl) (by omega)
  subst hf
  refine o_ul (o_ul (fun p hp=>by cases hp) ⟨by simp only;omega,s2,fun h=>by simp at h⟩ e0) ⟨s1,s2,s3⟩ ?_
  show (0:Rat)≤1-c a
  grind
theorem o_uq {top:Nat} {c:Nat→Rat} (h0:∀k,k<top→0≤c k) (h1:∀k,k<top→c k≤1) {s:St} (hs:okQ top s):∀n,oklQ top (ofQ (stepQ top c) s n)
 | 0=>fun p hp=>by
  simp [ofQ] at hp;subst hp
  exact ⟨hs,(by decide:(0:Rat)≤1)⟩
 | n+1=>o_uo (fun s hs=>o_up h0 h1 hs) (o_uq h0 h1 hs n)
theorem o_ur {top:Nat} {c:Nat→Rat} (s:St):∀n,exQ (fun _=>1) (ofQ (stepQ top c) s n)=1
 | 0=>by simp only [ofQ,exQ];grind
 | n+1=>by
  show exQ (fun _=>1) (timesQ (stepQ top c) (ofQ (stepQ top c) s n))=1
  rw [o_uf]
  have:(fun t=>exQ (fun _=>(1:Rat)) (stepQ top c t))=fun _=>1:=by
   funext t
   rw [(o_ui (fun _=>1) top c t).2]
   split
   ·rfl
   ·grind
  rw [this,o_ur s n]
end
section
open Go.RowKit
@[simp] theorem o_us (θ:Nat→Nat) (l:List D):V.rens θ (l.map V.d)=l.map V.d:=o_61 θ l
@[simp] theorem o_ut (n:Nat) (l:List D):V.lowl n (l.map V.d)=true:=o_62 n l
def rcD (q:Rat):List D:=[natW q.num.natAbs,.bool (decide (q.num<0)),natW (q.den-1)]
theorem o_uu (q:Rat):rD q = .agg (rcD q):=rfl
def zR:List D:=[.nilsl,.bool false,.nilsl]
theorem Sub1.agg2 {l r:List D} (h:Subs (l.map V.d) (r.map V.d)):Sub1 (.d (.agg l)) (.d (.agg r)):=fun m v k=>by
 rw [V.rep_d] at k ⊢
 unfold D.rep at k ⊢
 obtain ⟨vs,h1,h2,h3⟩:=k
 exact ⟨vs,h1,h2,V.reps_map_d.1 (h m vs (V.reps_map_d.2 h3))⟩
theorem o_uv:Sub1 (.d (.agg zR)) (.d (rD 0)):=Sub1.agg2 (Subs.cons Sub1.nil (Subs.cons (Sub1.refl _) (Subs.cons Sub1.nil (Subs.refl _))))
theorem o_uw (s:St):∀l:Sp,Sub1 (.d (lookD rcD zR s l)) (.d (rD (getQ l s)))
 | []=>o_uv
 | p::r=>by
  unfold lookD getQ
  split
  ·exact Sub1.refl _
  ·exact o_uw s r
def spO (l:Sp):Ob:=⟨1000391,(spD rcD l).map .d⟩
theorem o_ux (l:Sp) (s:St) (x:Rat) (h1:RS (getQ l s) 100000) (h2:RS x 100000):Eqn Tryz.prog o_ak [.mp 0,.d (.agg (stD s)),.d (rD x)] [spO l] (.tup []) [spO (addQ l s x)]:=by
 refine Eqn.gen [0] o_am (by simp) (by simp) (by rfl) (by decide) (by simp) (by simp [spO,o_62]) ?_
 have ha:Eqn Tryz.prog o_8y [.d (lookD rcD zR s l),.d (rD x)] [] (.d (rD (getQ l s+x))) []:=(o_o5 _ _ h1 h2).sub (Subs.cons (o_uw s l) (Subs.refl _))
 have hl:=o_ts rcD (fun _=>rfl) s l zR
 have hm:=o_tt rcD (fun _=>rfl) s l (getQ l s+x)
 have hn:=o_tn rcD (fun _=>rfl) l
 refine cc (c':=?z161) ?_ ?_
 case refine_1=>cbv<;>exact rfl
 try simp only [spO,o_uu,stD,zR,addQ,rcD] at ha hl hm hn ⊢
 generalize spD (fun q=>_) l=L at *
 generalize spD (fun q=>_) (setQ l s (getQ l s+x))=L2 at *
 refine A10 (fs hl (fs hm hn)) ?_;try with_reducible exact tt
 refine CallS.pu (ha) (R1 (fs hl (fs hm hn)) ?_);try with_reducible exact tt
end
section
open Go.RowKit
theorem o_uy:RS (1:Rat) 1:=by
 have:=RS.mk' (z:=1) (d:=1) (N:=1) (by decide) (by decide) (by decide)
 exact this
theorem rof1:Eqn Tryz.prog o_8s [.d (.int .i64 1)] [] (.d (rD 1)) []:=by
 have:=o_ot 1 (by omega)
 simpa using this
theorem rof0:Eqn Tryz.prog o_8s [.d (.int .i64 0)] [] (.d (rD 0)) []:=by
 have:=o_ot 0 (by omega)
 simpa using this
theorem o_uz (x:Rat) (s o:St) (hx:RS x 1000) (hso:s≠o):Eqn Tryz.prog o_9m [.d (rD x),.d (.agg (stD s)),.d (.agg (stD o))] [] (.mp 0) [spO (eitQ x s o)]:=by
 refine Eqn.gen [3] o_9o (by simp) (by simp) (by rfl) (by decide) (by simp) (by simp [spO]) ?_
 have h1:RS (1-x) 2000:=(o_uy.sub hx).le (by omega)
 have a1:=o_ux [] s x (by simp only [getQ];exact ⟨by decide,by decide⟩) (hx.le (by omega))
 have a2:=o_ux (addQ [] s x) o (1-x) (by rw [addQ,o_tp,if_neg (fun h=>hso h.symm)];show RS (0:Rat) 100000;exact ⟨by decide,by decide⟩) (h1.le (by omega))
 have hs:=o_o6 1 x (o_uy.le (by omega)) (hx.le (by omega))
 have ho:=rof1
 refine cc (c':=?z162) ?_ ?_
 case refine_1=>cbv<;>exact rfl
 try simp only [spO,o_uu,stD,eitQ,spD,List.flatMap_nil,List.map_nil] at a1 a2 hs ho ⊢
 generalize (addQ [] s x).flatMap _=L1 at *
 generalize (addQ (addQ [] s x) o (1-x)).flatMap _=L2 at *
 generalize rcD (1-x)=R1 at *
 simp only [rcD] at a1 hs ho ⊢
 refine A00 ?_;try with_reducible exact tt
 refine CallS.g [3] (a1) (R0 ?_);try with_reducible exact tt
 refine CallS.pu (ho) (R0 ?_);try with_reducible exact tt
 refine CallS.pu (hs) (R0 ?_);try with_reducible exact tt
 refine CallS.g [3] (a2) (R0 ?_);try with_reducible exact tt
 done
@[simp] theorem o_v0 (ks:List Nat) (vw:Nat) (kl dv:List D):mset ks vw kl dv []=some (kl++dv):=by simp [mset,mfind]
theorem o_v1 (s:St):Eqn Tryz.prog o_84 [.d (.agg (stD s))] [] (.mp 0) [spO [(s,1)]]:=by
 refine Eqn.gen [1] o_86 (by simp) (by simp) (by rfl) (by decide) (by simp) (by simp [spO]) ?_
 have ho:=rof1
 refine cc (c':=?z163) ?_ ?_
 case refine_1=>cbv<;>exact rfl
 try simp only [spO,o_uu,stD,rcD,spD,List.flatMap_cons,List.flatMap_nil] at ho ⊢
 simp
 refine A00 ?_;try with_reducible exact tt
 refine CallS.pu (ho) (R0 ?_);try with_reducible exact tt

def chP (k a x:Nat):Rat:=if k=1 then chM a x else mkRat 1 (2^expOf k a x)
theorem o_v2 (e:Nat):halfD e=rD (mkRat 1 (2^e)):=by
 obtain ⟨h1,h2,h3⟩:=o_nm 1 (2^e) (Nat.two_pow_pos e)
 have hg:Nat.gcd (1:Int).natAbs (2^e)=1:=by simp
 rw [hg] at h1 h2
 unfold halfD rD
 rw [h1,h2,show decide ((mkRat 1 (2^e)).num<0)=false by rw [decide_eq_false_iff_not,h3];decide]
 simp
theorem o_v3 : MethOK Tryz.prog 147 "tallymark/chain.chance" o_ge := fun v w => by kernel_rfl
theorem o_v4 (a k:Nat) (h1:1≤a) (h2:a≤4096) (hk:k≤1023) (hb:bitsN (a+1)*k≤8192):Eqn Tryz.prog o_ge [.d (.int .i64 a),.d (.int .i64 k)] [] (.tup [.d (rD (chM a k)),.d (.int .i64 0)]) []:=by
 refine Eqn.pure o_gg (o_k0 _ _) ?_
 have h:=(o_ql a k h1 h2 hk hb).1
 rw [o_uu] at h ⊢
 refine cc (c':=?z164) ?_ ?_
 case refine_1=>cbv<;>exact rfl
 try simp only [rcD] at h ⊢
 refine G0 ?_;try with_reducible exact tt
 refine CallS.pu (h) (R0 ?_);try with_reducible exact tt
theorem o_v5 {k a w x : Nat} (h : GoodS k a w) (hx : x ≤ 15) : ∃ ti d g, MethOK Tryz.prog ti "tallymark/chain.chance" g ∧ kindD k a = .ifc ti d ∧ Eqn Tryz.prog g [.d d, .d (.int .i64 x)] [] (.tup [.d (rD (chP k a x)), .d (.int .i64 0)]) [] := by
 by_cases hk:k=1
 ·subst hk
  have ha:1≤a∧a≤4:=by
   rcases h.1 with ⟨-,h1,h2⟩ | ⟨h1,-⟩ | ⟨h1,-⟩
   ·exact ⟨h1,h2⟩
   ·omega
   ·omega
  refine ⟨_,_,_,o_v3,rfl,?_⟩
  rw [chP,if_pos rfl]
  have hb:bitsN (a+1)≤3:=o_ko (by omega)
  exact o_v4 a x ha.1 (by omega) (by omega) (Nat.le_trans (Nat.mul_le_mul hb hx) (by omega))
 ·obtain ⟨ti,d,g,h1,h2,h3⟩:=o_qg h hk hx
  rw [o_v2] at h3
  exact ⟨ti,d,g,h1,h2,by rw [chP,if_neg hk];exact h3⟩
theorem o_v6 {k a w x:Nat} (h:GoodS k a w) (hx:x<2^w-1):Eqn Tryz.prog o_a1 [.d (parD k a w),.d (.int .i64 x)] [] (.tup [.d (rD (chP k a x)),.d (.int .i64 0)]) []:=by
 refine Eqn.pure o_a3 (o_k0 _ _) ?_
 have h2:2^w-1≤15:=by have:=Nat.pow_le_pow_right (n:=2) (by omega) h.2.2;omega
 have w2:w≤10:=by have:=h.2.2;omega
 have hc:=o_q8 h
 have hat:=o_q7 k a w w2 x (by omega) (by omega) hc
 have ht:=o_q6 k a w w2 hc
 have hkd:=o_p3 k a w
 obtain ⟨ti,d,g,hm,hd,hg⟩:=o_v5 (x:=x) h (by omega)
 rw [hd] at hkd
 rw [o_uu] at hg ⊢
 refine cc (c':=?z165) ?_ ?_
 case refine_1=>cbv<;>exact rfl
 try simp only [parD,rcD] at hat ht hg ⊢
 generalize 2^w-1=W at *
 have g1:¬x=W:=by omega
 have g2:¬(x:Int)=W:=by omega
 refine G1 (fs g1 g2) ?_;try with_reducible exact tt
 refine CallS.pf 2 1 ⟨3,_⟩ [.int .i64 x] (hat) (by first | rfl | (simp [g1,g2];done)) (R1 (fs g1 g2) ?_);try with_reducible exact tt
 refine CallS.pu (ht) (R1 (fs g1 g2) ?_);try with_reducible exact tt
 refine AW.cond rfl (fun h=>?_) (fun h=>?_)
 ·simp [g2] at h
 refine G0 ?_;try with_reducible exact tt
 refine CallS.pu (hkd) (R0 ?_);try with_reducible exact tt
 refine ⟨_,hm,?_⟩
 refine CallS.pu (hg) (R0 ?_);try with_reducible exact tt
theorem o_v7 {k a w:Nat} (h:GoodS k a w):Eqn Tryz.prog o_a1 [.d (parD k a w),.d (.int .i64 (2^w-1:Nat))] [] (.tup [.d (.agg zR),.d (.int .i64 0)]) []:=by
 refine Eqn.pure o_a3 (o_k0 _ _) ?_
 have h2:2^w-1≤15:=by have:=Nat.pow_le_pow_right (n:=2) (by omega) h.2.2;omega
 have w2:w≤10:=by have:=h.2.2;omega
 have hc:=o_q8 h
 have hat:=o_q7 k a w w2 ((2^w-1:Nat):Int) (by omega) (Int.le_refl _) hc
 have ht:=o_q6 k a w w2 hc
 refine cc (c':=?z166) ?_ ?_
 case refine_1=>cbv<;>exact rfl
 try simp only [parD,zR] at hat ht ⊢
 generalize 2^w-1=W at *
 refine G0 ?_;try with_reducible exact tt
 refine CallS.pf 2 1 ⟨3,_⟩ [.int .i64 W] (hat) (by first | rfl | (simp;done)) (R0 ?_);try with_reducible exact tt
 refine CallS.pu (ht) (R0 ?_);try with_reducible exact tt
 refine A00 ?_;try with_reducible exact tt
theorem o_v8 (k a b:Int):Eqn Tryz.prog o_9y [.d (parD k a b)] [] (.d (parD k a b)) []:=by
 refine Eqn.pure o_a0 Plain.ok ?_
 refine cc (c':=?z167) ?_ ?_
 case refine_1=>cbv<;>exact rfl
 try simp only [parD]
 refine A00 ?_;try with_reducible exact tt
end
section
open Go.RowKit
theorem o_v9 (x:Int):Eqn Tryz.prog o_f5 [.d (.int .i64 x)] [] (.d (.bool false)) []:=by
 refine Eqn.pure o_f7 Plain.ok ?_
 refine cc (c':=?z168) ?_ ?_
 case refine_1=>cbv<;>exact rfl
 refine A00 ?_;try with_reducible exact tt
def cmpG (x y:Int):Int:=if x<y then -1 else if y<x then 1 else 0
theorem o_va (x y:Int):Eqn Tryz.prog o_d8 [.d (.int .i64 x),.d (.int .i64 y)] [] (.d (.int .i64 (cmpG x y))) []:=by
 refine Eqn.pure o_da Plain.ok ?_
 refine cc (c':=?z169) ?_ ?_
 case refine_1=>cbv<;>exact rfl
 have h1:=o_v9 x
 have h2:=o_v9 y
 unfold cmpG
 by_cases g1:x<y
 ·rw [if_pos g1]
  refine A12 g1 h1 h2 ?_;try with_reducible exact tt
 ·rw [if_neg g1]
  by_cases g2:y<x
  ·rw [if_pos g2]
   refine A12 (fs g1 g2) h1 h2 ?_;try with_reducible exact tt
  ·rw [if_neg g2]
   refine A12 (fs g1 g2) h1 h2 ?_;try with_reducible exact tt
theorem o_vb (f:Bool):Eqn Tryz.prog o_db [.d (.bool f)] [] (.d (.int .i64 ((if f then 1 else 0)))) []:=by
 refine Eqn.pure o_dd Plain.ok ?_
 refine cc (c':=?z170) ?_ ?_
 case refine_1=>cbv<;>exact rfl
 cases f
 ·refine A00 ?_;try with_reducible exact tt
 ·refine A00 ?_;try with_reducible exact tt
def orG (a b c:Int):Int:=if a≠0 then a else if b≠0 then b else c
theorem o_vc (a b c:Int):Eqn Tryz.prog o_d5 [.d (.sl 3 [.int .i64 a,.int .i64 b,.int .i64 c])] [] (.d (.int .i64 (orG a b c))) []:=by
 refine Eqn.pure o_d7 Plain.ok ?_
 refine cc (c':=?z171) ?_ ?_
 case refine_1=>cbv<;>exact rfl
 unfold orG
 by_cases ha:a=0
 ·subst ha
  by_cases hb:b=0
  ·subst hb
   by_cases hc:c=0
   ·subst hc
    refine A00 ?_;try with_reducible exact tt
    refine AW.rounds 4 ?_
    refine A00 ?_;try with_reducible exact tt
   ·refine A00 ?_;try with_reducible exact tt
    refine AW.rounds 4 ?_
    refine A10 hc ?_;try with_reducible exact tt
  ·refine A00 ?_;try with_reducible exact tt
   refine AW.rounds 4 ?_
   refine A10 hb ?_;try with_reducible exact tt
 ·refine A00 ?_;try with_reducible exact tt
  refine AW.rounds 4 ?_
  refine A10 ha ?_;try with_reducible exact tt
end
section
open Go.RowKit
def ordI (p q:St×Rat):Int:=orG (cmpG p.1.1 q.1.1) (cmpG p.1.2.1 q.1.2.1) (cmpG (if p.1.2.2 then 1 else 0) (if q.1.2.2 then 1 else 0))
theorem o_vd (p q:St×Rat):ordI p q<0↔ltS p.1 q.1=true:=by
 obtain ⟨⟨a,b,c⟩,x⟩:=p;obtain ⟨⟨a',b',c'⟩,x'⟩:=q
 unfold ordI orG cmpG ltS
 simp only [Bool.or_eq_true,Bool.and_eq_true,decide_eq_true_eq,Bool.not_eq_true']
 cases c<;>cases c'<;>simp<;>(repeat' split)<;>omega
theorem o_ve (p q:St×Rat) (x y z x' y' z':D):Eqn Tryz.prog o_a8 [.d (.agg [.int .i64 p.1.1,.int .i64 p.1.2.1,.bool p.1.2.2,x,y,z]),.d (.agg [.int .i64 q.1.1,.int .i64 q.1.2.1,.bool q.1.2.2,x',y',z'])] [] (.d (.int .i64 (ordI p q))) []:=by
 refine Eqn.pure o_aa Plain.ok ?_
 refine cc (c':=?z172) ?_ ?_
 case refine_1=>cbv<;>exact rfl
 have t1:=o_vb p.1.2.2
 have t2:=o_vb q.1.2.2
 have c1:=o_va p.1.1 q.1.1
 have c2:=o_va p.1.2.1 q.1.2.1
 have c3:=o_va (if p.1.2.2 then 1 else 0) (if q.1.2.2 then 1 else 0)
 have ho:=o_vc (cmpG p.1.1 q.1.1) (cmpG p.1.2.1 q.1.2.1) (cmpG (if p.1.2.2 then 1 else 0) (if q.1.2.2 then 1 else 0))
 unfold ordI
 generalize cmpG (if p.1.2.2 then 1 else 0) (if q.1.2.2 then 1 else 0)=C3 at *
 generalize cmpG p.1.1 q.1.1=C1 at *
 generalize cmpG p.1.2.1 q.1.2.1=C2 at *
 generalize (if p.1.2.2 then (1:Int) else 0)=T1 at *
 generalize (if q.1.2.2 then (1:Int) else 0)=T2 at *
 generalize p.1.2.2=F1 at *
 generalize q.1.2.2=F2 at *
 refine A06B c1 c2 t1 t2 c3 c3 ?_;try with_reducible exact tt
 refine CallS.pf 4 1 ⟨3,[.d (.int .i64 C1),.d (.int .i64 C2),.d (.int .i64 C3)]⟩ [.int .i64 C1,.int .i64 C2,.int .i64 C3] (ho) (by first | rfl | (simp [-Bool.exists_bool];done)) (R0B ?_);try with_reducible exact tt

section
variable {aC:St×Rat→List D}
def rowA (aC:St×Rat→List D) (l:Sp):List V:=(l.flatMap aC).map .d
theorem o_vf (h6:∀p,(aC p).length=6) (l:Sp):(rowA aC l).length=l.length*6:=by
 rw [rowA,List.length_map,o_ov h6]
@[simp] theorem o_vg (n:Nat) (l:Sp):V.lowl n (rowA aC l)=true:=o_62 _ _
@[simp] theorem o_vh (θ:Nat→Nat) (l:Sp):V.rens θ (rowA aC l)=rowA aC l:=o_61 _ _
theorem o_vi (l k:Sp):rowA aC (l++k)=rowA aC l++rowA aC k:=by simp [rowA]
def SortTo (L K:Sp):Prop:=∀K':Sp,K'.Perm L→K'.Pairwise (fun a b=>ltS a.1 b.1=true)→K'=K
end
end
section
open Go.RowKit
def topC (w:Nat):Nat:=2^w-1
def onQ (w:Nat) (s:St) (x:Rat):Sp:=if s.1=topC w then [((s.1,s.2.1,true),1)] else eitQ x (s.1+1,s.2) s
theorem o_vj {k a w:Nat} (h:GoodS k a w) (s:St) (hs:s.1≤topC w) (x:Rat) (hx:RS x 1000) (X:D) (hX:Sub1 (.d X) (.d (rD x))) (hX2:∃x0 x1 x2,X = .agg [x0,x1,x2]) :
  Eqn Tryz.prog o_a4 [.d (parD k a w),.d (.agg (stD s)),.d X] [] (.mp 0) [spO (onQ w s x)]:=by
 have h15:topC w≤15:=by have:=Nat.pow_le_pow_right (n:=2) (by omega) h.2.2;unfold topC;omega
 have w2:w≤10:=by have:=h.2.2;omega
 have hc:=o_q8 h
 have ht:=o_q6 k a w w2 hc
 have hl:=o_v8 k a w
 rw [show 2^w-1=topC w from rfl] at ht
 obtain ⟨x0,x1,x2,rfl⟩:=hX2
 obtain ⟨s1,s2,s3⟩:=s
 simp only at hs
 unfold onQ
 generalize topC w=W at *
 by_cases e:s1=W
 ·subst e
  rw [if_pos rfl]
  refine Eqn.gen [3] o_a6 (by simp) (by simp) (by rfl) (by decide) (by simp) (by simp [spO]) ?_
  have hsu:=o_v1 (s1,s2,true)
  refine cc (c':=?z174) ?_ ?_
  case refine_1=>cbv<;>exact rfl
  try simp only [spO,stD,parD] at ht hl hsu ⊢
  generalize spD rcD [((s1,s2,true),1)]=L at *
  refine A00 ?_;try with_reducible exact tt
  refine CallS.pu (hl) (R0 ?_);try with_reducible exact tt
  refine CallS.pu (ht) (R0 ?_);try with_reducible exact tt
  refine A00 ?_;try with_reducible exact tt
  refine CallS.nX (hsu) (R0 ?_);try with_reducible exact tt
 ·rw [if_neg e]
  have hei:=o_uz x (s1+1,s2,s3) (s1,s2,s3) hx (by simp)
  replace hei:=hei.sub (Subs.cons hX (Subs.refl _))
  have e1:¬(s1:Int)=(W:Int):=by omega
  have ew:IntKind.i64.wrap ((s1:Int)+1)=((s1+1:Nat):Int):=by rw [w64 (by omega) (by omega)];omega
  refine Eqn.gen [4] o_a6 (by simp) (by simp) (by rfl) (by decide) (by simp) (by simp [spO]) ?_
  refine cc (c':=?z175) ?_ ?_
  case refine_1=>cbv<;>exact rfl
  try simp only [spO,stD,parD] at ht hl hei ⊢
  generalize spD rcD _=L at *
  refine A00 ?_;try with_reducible exact tt
  refine CallS.pu (hl) (R0 ?_);try with_reducible exact tt
  refine CallS.pu (ht) (R1 (fs e e1) ?_);try with_reducible exact tt
  refine A10 (fs e (fs e1 ew)) ?_;try with_reducible exact tt
  refine CallS.nX (hei) (R1 ew ?_);try with_reducible exact tt
end
end Go.Proofs.YtidfejfgmlakpaaGreatDoor.Am
