/- Parts of the proof: WordsM, RatQ, AmTac, CodeD, Nat1, Nat2, Nat3, Nat4, Nat5, Nat6, Rat1, Text1, Tape1, Float1, Flip1, Flip2, ChainP, Morris1, Chain1, YuM, DivM, Nat7, Yu1, YuX, YuW, YuAt, YuAt2, Yu2, Float2, Yu3, Chain2, Chain3, Chain4, Chain5, Chain6. -/
import Derived.Test.YtidfejfgmlakpaaGreatPb
set_option linter.unusedVariables false
set_option linter.unusedSimpArgs false
set_option maxRecDepth 100000
namespace Go.Proofs.YtidfejfgmlakpaaGreat.Am
section
def wval:List Nat→Nat
 | []=>0
 | x::l=>x+18446744073709551616*wval l
def small (ws:List Nat):Prop:=∀x∈ws,x<18446744073709551616

theorem o_6s:∀(a b:List Nat),wval (a++b)=wval a+18446744073709551616^a.length*wval b:=by
 intro a
 induction a with
 | nil=>intro b;simp [wval]
 | cons x a ih=>intro b;simp only [List.cons_append,wval,List.length_cons];rw [ih,Nat.pow_succ,Nat.mul_add,←Nat.mul_assoc,Nat.mul_comm 18446744073709551616 (18446744073709551616^a.length)];omega
theorem o_6t:∀n,wval (List.replicate n 0)=0:=by
 intro n
 induction n with
 | zero=>rfl
 | succ n ih=>rw [List.replicate_succ,wval,ih]
theorem o_6u:∀{ws:List Nat},small ws→wval ws<18446744073709551616^ws.length:=by
 intro ws
 induction ws with
 | nil=>intro _;simp [wval]
 | cons x l ih =>
  intro h
  have h1:=h x (by simp)
  have h2:=ih (fun y hy=>h y (by simp [hy]))
  rw [wval,List.length_cons,Nat.pow_succ]
  omega

def trimN (ws:List Nat):Nat→Nat
 | 0=>0
 | n+1=>if ws.getD n 0=0 then trimN ws n else n+1
theorem o_6v (ws:List Nat) (n:Nat) (h:n<ws.length):ws.take (n+1)=ws.take n++[ws.getD n 0]:=by
 rw [List.take_add_one,List.getElem?_eq_getElem h]
 simp [List.getD,List.getElem?_eq_getElem h]
theorem o_6w (ws:List Nat):∀n,n≤ws.length→wval (ws.take (trimN ws n))=wval (ws.take n):=by
 intro n
 induction n with
 | zero=>intro _;rfl
 | succ n ih =>
  intro h
  unfold trimN
  split
  ·rename_i h0
   rw [ih (by omega),o_6v _ _ (by omega),o_6s,h0]
   simp [wval]
  ·rfl
def top1 (ws:List Nat):Prop:=∀k,ws.length=k+1→ws.getD k 0≠0
theorem o_6x (ws:List Nat):∀n,n≤ws.length→top1 (ws.take (trimN ws n)):=by
 intro n
 induction n with
 | zero=>intro _ k hk;simp [trimN] at hk
 | succ n ih =>
  intro h
  unfold trimN
  split
  ·exact ih (by omega)
  ·rename_i h0
   intro k hk
   rw [List.length_take,Nat.min_eq_left h] at hk
   obtain rfl:n=k:=by omega
   have e:(ws.take (n+1)).getD n 0=ws.getD n 0:=by simp [List.getD]
   rw [e]
   exact h0

theorem small.take {ws:List Nat} (h:small ws) (n:Nat):small (ws.take n):=fun x hx=>h x (List.mem_of_mem_take hx)

theorem o_6y {ws:List Nat} (h:small ws) (ht:top1 ws) (h0:wval ws=0):ws=[]:=by
 rcases ws.eq_nil_or_concat with rfl | ⟨l,x,rfl⟩
 ·rfl
 ·exfalso
  have:=ht l.length (by simp)
  simp at this
  simp [o_6s,wval] at h0
  rcases Nat.mul_eq_zero.1 h0.2 with h | h
  ·exact absurd h (Nat.pos_iff_ne_zero.1 (Nat.pow_pos (by decide)))
  ·exact this h

theorem o_6z:∀{a b:List Nat},small a→small b→top1 a→top1 b→wval a=wval b→a=b:=by
 intro a
 induction a with
 | nil=>intro b _ hb _ tb h;exact (o_6y hb tb h.symm).symm
 | cons x a ih =>
  intro b ha hb ta tb h
  cases b with
  | nil=>exact absurd (o_6y ha ta h) (by simp)
  | cons y b =>
   have h1:=ha x (by simp)
   have h2:=hb y (by simp)
   simp only [wval] at h
   have e:x=y:=by omega
   subst e
   have e2:wval a=wval b:=by omega
   have e3:a=b:=ih (fun z hz=>ha z (by simp [hz])) (fun z hz=>hb z (by simp [hz])) (fun k hk=>by have:=ta (k+1) (by simp [hk]);simpa using this) (fun k hk=>by have:=tb (k+1) (by simp [hk]);simpa using this) e2
   rw [e3]

def movedL (k:Nat):Nat→List Nat→List Nat
 | c,[]=>[c]
 | c,x::l=>((x*2^k)%18446744073709551616+c)::movedL k (x*2^k/18446744073709551616) l
theorem o_70 (k:Nat):∀(l:List Nat) (c:Nat),(movedL k c l).length=l.length+1:=by
 intro l
 induction l with
 | nil=>intro c;rfl
 | cons x l ih=>intro c;simp [movedL,ih]
theorem o_71 (k:Nat):∀(l:List Nat) (c:Nat),wval (movedL k c l)=wval l*2^k+c:=by
 intro l
 induction l with
 | nil=>intro c;simp [movedL,wval]
 | cons x l ih =>
  intro c
  rw [movedL,wval,ih,wval]
  have:=Nat.div_add_mod (x*2^k) 18446744073709551616
  rw [Nat.add_mul,Nat.mul_add,Nat.mul_assoc]
  omega
theorem o_72 {k:Nat} (hk:k<64):∀{l:List Nat} {c:Nat},small l→c<2^k→small (movedL k c l):=by
 have p64:(18446744073709551616:Nat)=2^(64-k)*2^k:=by rw [←Nat.pow_add,show 64-k+k=64 by omega]
 intro l
 induction l with
 | nil =>
  intro c _ hc x hx
  simp [movedL] at hx;subst hx
  exact Nat.lt_trans hc (by rw [show (18446744073709551616:Nat)=2^64 by decide];exact Nat.pow_lt_pow_right (by decide) hk)
 | cons y l ih =>
  intro c h hc x hx
  simp only [movedL,List.mem_cons] at hx
  have hy:=h y (by simp)
  rcases hx with rfl | hx
  ·rw [p64,Nat.mul_mod_mul_right]
   have:y%2^(64-k)<2^(64-k):=Nat.mod_lt _ (Nat.pow_pos (by decide))
   calc _<y%2^(64-k)*2^k+2^k:=by omega
    _=(y%2^(64-k)+1)*2^k:=by rw [Nat.add_mul,Nat.one_mul]
    _≤_:=Nat.mul_le_mul_right _ this
  ·refine ih (fun z hz=>h z (by simp [hz])) ?_ x hx
   apply Nat.div_lt_of_lt_mul
   exact Nat.mul_lt_mul_of_pos_right hy (Nat.pow_pos (by decide))

def movedB (k:Nat):Nat→List Nat→List Nat
 | _,[]=>[]
 | c,x::l=>((x*2^k)%18446744073709551616+c)::movedB k (x*2^k/18446744073709551616) l
def movedC (k:Nat):Nat→List Nat→Nat
 | c,[]=>c
 | _,x::l=>movedC k (x*2^k/18446744073709551616) l
theorem o_73 (k:Nat):∀(l:List Nat) (c:Nat),movedL k c l=movedB k c l++[movedC k c l]:=by
 intro l
 induction l with
 | nil=>intro c;rfl
 | cons x l ih=>intro c;simp [movedL,movedB,movedC,ih]
theorem o_74 (k:Nat) (l:List Nat) (c:Nat):(movedB k c l).length=l.length:=by
 have h:=o_70 k l c
 rw [o_73,List.length_append] at h
 simpa using h
theorem o_75 (k:Nat) (x:Nat):∀(l:List Nat) (c:Nat),movedB k c (l++[x])=movedB k c l++[(x*2^k)%18446744073709551616+movedC k c l]:=by
 intro l
 induction l with
 | nil=>intro c;rfl
 | cons y l ih=>intro c;simp [movedB,movedC,ih]
theorem o_76 (k:Nat) (x:Nat):∀(l:List Nat) (c:Nat),movedC k c (l++[x])=x*2^k/18446744073709551616:=by
 intro l
 induction l with
 | nil=>intro c;rfl
 | cons y l ih=>intro c;simp [movedC,ih]
theorem o_77 {k x:Nat} (hx:x<18446744073709551616):x*2^k/18446744073709551616<2^k:=by
 apply Nat.div_lt_of_lt_mul
 exact Nat.mul_lt_mul_of_pos_right hx (Nat.pow_pos (by decide))
theorem o_78 {k:Nat}:∀{l:List Nat} {c:Nat},small l→c<2^k→movedC k c l<2^k:=by
 intro l
 induction l with
 | nil=>intro c _ hc;exact hc
 | cons x l ih=>intro c h hc;exact ih (fun z hz=>h z (by simp [hz])) (o_77 (h x (by simp)))
theorem o_79 {k x c:Nat} (hk:k<64) (hc:c<2^k):c ||| (x*2^k)%18446744073709551616=(x*2^k)%18446744073709551616+c:=by
 have p64:(18446744073709551616:Nat)=2^(64-k)*2^k:=by rw [←Nat.pow_add,show 64-k+k=64 by omega]
 rw [p64,Nat.mul_mod_mul_right,Nat.or_comm,Nat.mul_comm]
 exact (Nat.two_pow_add_eq_or_of_lt hc _).symm
theorem o_7a {k x:Nat} (hk:k≤64):x*2^k/18446744073709551616=x/2^(64-k):=by
 have p64:(18446744073709551616:Nat)=2^(64-k)*2^k:=by rw [←Nat.pow_add,show 64-k+k=64 by omega]
 rw [p64,Nat.mul_div_mul_right _ _ (Nat.pow_pos (by decide))]

theorem o_7b:∀{ws:List Nat} {m:Nat},top1 ws→wval ws<18446744073709551616^m→ws.length≤m:=by
 intro ws
 induction ws with
 | nil=>intro m _ _;exact Nat.zero_le _
 | cons x l ih =>
  intro m ht h
  cases m with
  | zero =>
   exfalso
   rw [Nat.pow_zero] at h
   rw [wval] at h
   cases l with
   | nil =>
    have:=ht 0 rfl
    simp [wval] at this h
    omega
   | cons y l =>
    have hw:wval (y::l)=0:=by omega
    have:(y::l).length≤0:=ih (m:=0) (fun k hk=>by have:=ht (k+1) (by simp [hk]);simpa using this) (by rw [hw];decide)
    simp at this
  | succ m =>
   rw [List.length_cons]
   have:l.length≤m:=by
    cases l with
    | nil=>exact Nat.zero_le _
    | cons y l =>
     refine ih (fun k hk=>by have:=ht (k+1) (by simp [hk]);simpa using this) ?_
     rw [wval,Nat.pow_succ] at h
     omega
   omega

theorem o_7c (f:Nat→Nat) (n:Nat):wval ((List.range (n+1)).map f)=wval ((List.range n).map f)+18446744073709551616^n*f n:=by
 rw [List.range_succ,List.map_append,o_6s]
 simp [wval]
theorem o_7d (l:List Nat) (n:Nat):wval (l.take (n+1))=wval (l.take n)+18446744073709551616^n*l.getD n 0:=by
 by_cases h:n<l.length
 ·rw [o_6v _ _ h,o_6s,List.length_take,Nat.min_eq_left (Nat.le_of_lt h)]
  simp [wval]
 ·rw [List.take_of_length_le (by omega),List.take_of_length_le (by omega)]
  simp [List.getD,List.getElem?_eq_none (show l.length≤n by omega)]

def carryW (a b:List Nat):Nat→Nat
 | 0=>0
 | n+1=>(a.getD n 0+b.getD n 0+carryW a b n)/18446744073709551616
def addW (a b:List Nat) (n:Nat):Nat:=(a.getD n 0+b.getD n 0+carryW a b n)%18446744073709551616

theorem small.getD {l:List Nat} (h:small l) (n:Nat):l.getD n 0<18446744073709551616:=by
 by_cases hn:n<l.length
 ·rw [List.getD,List.getElem?_eq_getElem hn];exact h _ (List.getElem_mem hn)
 ·simp [List.getD,List.getElem?_eq_none (show l.length≤n by omega)]
theorem o_7e {a b:List Nat} (ha:small a) (hb:small b):∀n,carryW a b n≤1:=by
 intro n
 induction n with
 | zero=>exact Nat.zero_le _
 | succ n ih =>
  have h1:=ha.getD n
  have h2:=hb.getD n
  simp only [carryW]
  omega
theorem o_7f (a b:List Nat):∀n,wval ((List.range n).map (addW a b))+18446744073709551616^n*carryW a b n=wval (a.take n)+wval (b.take n):=by
 intro n
 induction n with
 | zero=>simp [wval,carryW]
 | succ n ih =>
  rw [o_7c,o_7d,o_7d]
  have:=Nat.div_add_mod (a.getD n 0+b.getD n 0+carryW a b n) 18446744073709551616
  simp only [addW,carryW]
  rw [Nat.pow_succ]
  generalize 18446744073709551616^n=P at *
  generalize (a.getD n 0+b.getD n 0+carryW a b n)/18446744073709551616=q at *
  generalize (a.getD n 0+b.getD n 0+carryW a b n)%18446744073709551616=r at *
  have e:P*(18446744073709551616*q+r)=P*a.getD n 0+P*b.getD n 0+P*carryW a b n:=by rw [this];simp [Nat.mul_add]
  rw [Nat.mul_add,←Nat.mul_assoc] at e
  omega

def borrowW (a b:List Nat):Nat→Nat
 | 0=>0
 | n+1=>if a.getD n 0<b.getD n 0+borrowW a b n then 1 else 0
def subW (a b:List Nat) (n:Nat):Nat:=(a.getD n 0+18446744073709551616-b.getD n 0-borrowW a b n)%18446744073709551616
theorem o_7g (a b:List Nat):∀n,borrowW a b n≤1:=by
 intro n
 cases n with
 | zero=>exact Nat.zero_le _
 | succ n=>simp only [borrowW];split<;>omega
theorem o_7h {a b:List Nat} (ha:small a) (hb:small b):∀n,wval ((List.range n).map (subW a b))+wval (b.take n)=wval (a.take n)+18446744073709551616^n*borrowW a b n:=by
 intro n
 induction n with
 | zero=>simp [wval,borrowW]
 | succ n ih =>
  rw [o_7c,o_7d,o_7d]
  have h1:=ha.getD n
  have h2:=hb.getD n
  have h3:=o_7g a b n
  have e:subW a b n+b.getD n 0+borrowW a b n=a.getD n 0+18446744073709551616*borrowW a b (n+1):=by
   simp only [subW,borrowW]
   split<;>omega
  rw [Nat.pow_succ,Nat.mul_assoc]
  generalize 18446744073709551616^n=P at *
  have e2:P*subW a b n+P*b.getD n 0+P*borrowW a b n=P*a.getD n 0+P*(18446744073709551616*borrowW a b (n+1)):=by rw [←Nat.mul_add,←Nat.mul_add,e,Nat.mul_add]
  omega
theorem o_7i {f:Nat→Nat} (h:∀i,f i<18446744073709551616) (n:Nat):small ((List.range n).map f):=by
 intro x hx
 obtain ⟨i,_,rfl⟩:=List.mem_map.1 hx
 exact h i
theorem o_7j (a b:List Nat) (i:Nat):addW a b i<18446744073709551616:=Nat.mod_lt _ (by decide)
theorem o_7k (a b:List Nat) (i:Nat):subW a b i<18446744073709551616:=Nat.mod_lt _ (by decide)

theorem o_7l {a b:List Nat} (ha:small a) (hb:top1 b) (h:a.length<b.length):wval a<wval b:=by
 refine Nat.lt_of_lt_of_le (o_6u ha) ?_
 apply Nat.le_of_not_lt
 intro hlt
 have:=o_7b hb hlt
 omega
def cmpN (a b:List Nat):Nat→Int
 | 0=>0
 | n+1=>if a.getD n 0<b.getD n 0 then -1 else if b.getD n 0<a.getD n 0 then 1 else cmpN a b n
theorem o_7m {l:List Nat} (h:small l) (n:Nat):wval (l.take n)<18446744073709551616^n:=by
 have:=o_6u (h.take n)
 rw [List.length_take] at this
 exact Nat.lt_of_lt_of_le this (Nat.pow_le_pow_right (by decide) (Nat.min_le_left _ _))
theorem o_7n {a b:List Nat} (ha:small a) (hb:small b):∀n,cmpN a b n=if wval (a.take n)<wval (b.take n) then -1 else if wval (b.take n)<wval (a.take n) then 1 else 0:=by
 intro n
 induction n with
 | zero=>simp [cmpN,wval]
 | succ n ih =>
  rw [o_7d,o_7d]
  have h1:=o_7m ha n
  have h2:=o_7m hb n
  simp only [cmpN]
  generalize 18446744073709551616^n=P at *
  generalize a.getD n 0=x at *
  generalize b.getD n 0=y at *
  by_cases hxy:x<y
  ·rw [if_pos hxy,if_pos]
   have:P*(x+1)≤P*y:=Nat.mul_le_mul_left _ hxy
   rw [Nat.mul_add] at this
   omega
  ·rw [if_neg hxy]
   by_cases hyx:y<x
   ·have:P*(y+1)≤P*x:=Nat.mul_le_mul_left _ hyx
    rw [Nat.mul_add] at this
    rw [if_pos hyx,if_neg (by omega),if_pos (by omega)]
   ·obtain rfl:x=y:=by omega
    rw [if_neg hyx,ih]
    simp only [Nat.add_lt_add_iff_right]
def cmpZ (m n:Nat):Int:=if m<n then -1 else if n<m then 1 else 0
end
section
theorem o_7o (z:Int) (d:Nat) (hd:0<d):(mkRat z d).num.natAbs=z.natAbs/Nat.gcd z.natAbs d∧(mkRat z d).den=d/Nat.gcd z.natAbs d∧((mkRat z d).num<0↔z<0):=by
 have hg:0<Nat.gcd z.natAbs d:=Nat.gcd_pos_of_pos_right _ hd
 rw [Rat.mkRat_def,dif_neg (by omega),Rat.normalize_eq]
 have hdv:((Nat.gcd z.natAbs d:Nat):Int)∣z:=Int.ofNat_dvd_left.2 (Nat.gcd_dvd_left _ _)
 refine ⟨?_,rfl,?_⟩
 ·show (z/((Nat.gcd z.natAbs d:Nat):Int)).natAbs=_
  rw [Int.natAbs_ediv_of_dvd hdv,Int.natAbs_natCast]
 ·show z/((Nat.gcd z.natAbs d:Nat):Int)<0↔z<0
  obtain ⟨k,hk⟩:=hdv
  have hg':0<((Nat.gcd z.natAbs d:Nat):Int):=by omega
  generalize ((Nat.gcd z.natAbs d:Nat):Int)=g at *
  rw [hk,Int.mul_ediv_cancel_left _ (by omega)]
  constructor
  ·intro h;exact Int.mul_neg_of_pos_of_neg hg' h
  ·intro h
   rcases Int.lt_or_le k 0 with h1 | h1
   ·exact h1
   ·have:=Int.mul_nonneg (Int.le_of_lt hg') h1;omega
theorem o_7p (x y:Rat):x+y=mkRat (x.num*y.den+y.num*x.den) (x.den*y.den):=Rat.add_def' x y
theorem o_7q (x y:Rat):x*y=mkRat (x.num*y.num) (x.den*y.den):=Rat.mul_def' x y
theorem o_7r (x y:Rat):x<y↔x.num*y.den<y.num*x.den:=Rat.lt_iff x y
end
section
open Go.RowKit
inductive Tri:Prop→Prop
 | tt:Tri True
 | any (p:Prop):Tri p
structure Hid (p:Prop):Prop where
 v:p
theorem tt:True:=True.intro
theorem fs {a b:Prop} (x:a) (y:b):a∧b:=And.intro x y
theorem G0 {q p:Prop} (hp:p) (h:(Hid p→q)∧Tri p:=by
 constructor
 ·intro hp
  repeat (first | refine AW.seq ?_ | refine AW.block ?_ | (refine AW.reg mix ?_;(simp -implicitDefEqProofs;try simp (disch:=omega) only [w64,wu64])) | (refine need.of (by first | omega | kernel_rfl) ?_) | (refine AW.fin ?_;try (simp -implicitDefEqProofs;try simp (disch:=omega) only [w64,wu64])))
  try exact hp.v
 ·with_reducible first | exact Tri.tt | exact Tri.any _):q:=(h).1 ⟨hp⟩
theorem R0 {q p:Prop} (hp:p) (h:(Hid p→q)∧Tri p:=by
 constructor
 ·intro hp
  try (simp -implicitDefEqProofs;try simp (disch:=omega) only [w64,wu64])
  repeat (first | refine AW.seq ?_ | refine AW.block ?_ | (refine AW.reg mix ?_;(simp -implicitDefEqProofs;try simp (disch:=omega) only [w64,wu64])) | (refine need.of (by first | omega | kernel_rfl) ?_) | (refine AW.fin ?_;try (simp -implicitDefEqProofs;try simp (disch:=omega) only [w64,wu64])))
  try exact hp.v
 ·with_reducible first | exact Tri.tt | exact Tri.any _):q:=(h).1 ⟨hp⟩
theorem A00 {q p:Prop} (hp:p) (h:(Hid p→q)∧Tri p:=by
 constructor
 ·intro hp
  repeat (first | refine AW.seq ?_ | refine AW.block ?_ | (refine AW.reg mix ?_;(simp -implicitDefEqProofs;try simp (disch:=omega) only [w64,wu64])) | (refine need.of (by first | omega | kernel_rfl) ?_) | (refine AW.fin ?_;try (simp -implicitDefEqProofs;try simp (disch:=omega) only [w64,wu64])) | (refine AW.cond rfl ?_ (fun _=>?_);focus (intro h;simp -implicitDefEqProofs at h;done)) | (refine AW.cond rfl (fun _=>?_) ?_;rotate_left;focus (intro h;simp -implicitDefEqProofs at h;done)))
  try exact hp.v
 ·with_reducible first | exact Tri.tt | exact Tri.any _):q:=(h).1 ⟨hp⟩
theorem A01 {q p c1:Prop} (k1:c1) (hp:p) (h:c1→(Hid p→q)∧Tri p:=by
 intro c1
 constructor
 ·intro hp
  repeat (first | refine AW.seq ?_ | refine AW.block ?_ | (refine AW.reg mix ?_;(simp -implicitDefEqProofs;try simp (disch:=omega) only [w64,wu64])) | (refine need.of (by first | omega | kernel_rfl) ?_) | (refine AW.fin ?_;try (simp -implicitDefEqProofs;try simp (disch:=omega) only [w64,wu64])) | (refine AW.cond rfl ?_ (fun _=>?_);focus (intro h;simp -implicitDefEqProofs at h;done)) | (refine AW.cond rfl (fun _=>?_) ?_;rotate_left;focus (intro h;simp -implicitDefEqProofs at h;done)) | (refine CallS.pu c1 ?_;try (simp -implicitDefEqProofs;try simp (disch:=omega) only [w64,wu64])) | refine Exists.intro _ (And.intro c1 ?_))
  try exact hp.v
 ·with_reducible first | exact Tri.tt | exact Tri.any _):q:=(h k1).1 ⟨hp⟩
theorem G1 {q f1:Prop} {p:f1→Prop} (f:f1) (hp:(p f)) (h:∀f1:f1,(Hid (p f1)→q)∧Tri (p f1):=by
 intro f1
 constructor
 ·intro hp
  repeat (first | refine AW.seq ?_ | refine AW.block ?_ | (refine AW.reg mix ?_;(simp -implicitDefEqProofs [f1];try simp (disch:=omega) only [w64,wu64])) | (refine need.of (by first | omega | kernel_rfl) ?_) | (refine AW.fin ?_;try (simp -implicitDefEqProofs [f1];try simp (disch:=omega) only [w64,wu64])))
  try exact hp.v
 ·with_reducible first | exact Tri.tt | exact Tri.any _):q:=(h f).1 ⟨hp⟩
theorem R1 {q f1:Prop} {p:f1→Prop} (f:f1) (hp:(p f)) (h:∀f1:f1,(Hid (p f1)→q)∧Tri (p f1):=by
 intro f1
 constructor
 ·intro hp
  try (simp -implicitDefEqProofs [f1];try simp (disch:=omega) only [w64,wu64])
  repeat (first | refine AW.seq ?_ | refine AW.block ?_ | (refine AW.reg mix ?_;(simp -implicitDefEqProofs [f1];try simp (disch:=omega) only [w64,wu64])) | (refine need.of (by first | omega | kernel_rfl) ?_) | (refine AW.fin ?_;try (simp -implicitDefEqProofs [f1];try simp (disch:=omega) only [w64,wu64])))
  try exact hp.v
 ·with_reducible first | exact Tri.tt | exact Tri.any _):q:=(h f).1 ⟨hp⟩
theorem A10 {q f1:Prop} {p:f1→Prop} (f:f1) (hp:(p f)) (h:∀f1:f1,(Hid (p f1)→q)∧Tri (p f1):=by
 intro f1
 constructor
 ·intro hp
  repeat (first | refine AW.seq ?_ | refine AW.block ?_ | (refine AW.reg mix ?_;(simp -implicitDefEqProofs [f1];try simp (disch:=omega) only [w64,wu64])) | (refine need.of (by first | omega | kernel_rfl) ?_) | (refine AW.fin ?_;try (simp -implicitDefEqProofs [f1];try simp (disch:=omega) only [w64,wu64])) | (refine AW.cond rfl ?_ (fun _=>?_);focus (intro h;simp -implicitDefEqProofs [f1] at h;done)) | (refine AW.cond rfl (fun _=>?_) ?_;rotate_left;focus (intro h;simp -implicitDefEqProofs [f1] at h;done)))
  try exact hp.v
 ·with_reducible first | exact Tri.tt | exact Tri.any _):q:=(h f).1 ⟨hp⟩
theorem A12 {q f1 c1 c2:Prop} {p:f1→Prop} (f:f1) (k1:c1) (k2:c2) (hp:(p f)) (h:∀f1:f1,c1→c2→(Hid (p f1)→q)∧Tri (p f1):=by
 intro f1 c1 c2
 constructor
 ·intro hp
  repeat (first | refine AW.seq ?_ | refine AW.block ?_ | (refine AW.reg mix ?_;(simp -implicitDefEqProofs [f1];try simp (disch:=omega) only [w64,wu64])) | (refine need.of (by first | omega | kernel_rfl) ?_) | (refine AW.fin ?_;try (simp -implicitDefEqProofs [f1];try simp (disch:=omega) only [w64,wu64])) | (refine AW.cond rfl ?_ (fun _=>?_);focus (intro h;simp -implicitDefEqProofs [f1] at h;done)) | (refine AW.cond rfl (fun _=>?_) ?_;rotate_left;focus (intro h;simp -implicitDefEqProofs [f1] at h;done)) | (refine CallS.pu c1 ?_;try (simp -implicitDefEqProofs [f1];try simp (disch:=omega) only [w64,wu64])) | refine Exists.intro _ (And.intro c1 ?_) | (refine CallS.pu c2 ?_;try (simp -implicitDefEqProofs [f1];try simp (disch:=omega) only [w64,wu64])) | refine Exists.intro _ (And.intro c2 ?_))
  try exact hp.v
 ·with_reducible first | exact Tri.tt | exact Tri.any _):q:=(h f k1 k2).1 ⟨hp⟩
theorem G0B {q p:Prop} (hp:p) (h:(Hid p→q)∧Tri p:=by
 constructor
 ·intro hp
  repeat (first | refine AW.seq ?_ | refine AW.block ?_ | (refine AW.reg mix ?_;(simp -implicitDefEqProofs [-Bool.exists_bool];try simp (disch:=omega) only [w64,wu64])) | (refine need.of (by first | omega | kernel_rfl) ?_) | (refine AW.fin ?_;try (simp -implicitDefEqProofs [-Bool.exists_bool];try simp (disch:=omega) only [w64,wu64])))
  try exact hp.v
 ·with_reducible first | exact Tri.tt | exact Tri.any _):q:=(h).1 ⟨hp⟩
theorem R0B {q p:Prop} (hp:p) (h:(Hid p→q)∧Tri p:=by
 constructor
 ·intro hp
  try (simp -implicitDefEqProofs [-Bool.exists_bool];try simp (disch:=omega) only [w64,wu64])
  repeat (first | refine AW.seq ?_ | refine AW.block ?_ | (refine AW.reg mix ?_;(simp -implicitDefEqProofs [-Bool.exists_bool];try simp (disch:=omega) only [w64,wu64])) | (refine need.of (by first | omega | kernel_rfl) ?_) | (refine AW.fin ?_;try (simp -implicitDefEqProofs [-Bool.exists_bool];try simp (disch:=omega) only [w64,wu64])))
  try exact hp.v
 ·with_reducible first | exact Tri.tt | exact Tri.any _):q:=(h).1 ⟨hp⟩
theorem A06B {q p c1 c2 c3 c4 c5 c6:Prop} (k1:c1) (k2:c2) (k3:c3) (k4:c4) (k5:c5) (k6:c6) (hp:p) (h:c1→c2→c3→c4→c5→c6→(Hid p→q)∧Tri p:=by
 intro c1 c2 c3 c4 c5 c6
 constructor
 ·intro hp
  repeat (first | refine AW.seq ?_ | refine AW.block ?_ | (refine AW.reg mix ?_;(simp -implicitDefEqProofs [-Bool.exists_bool];try simp (disch:=omega) only [w64,wu64])) | (refine need.of (by first | omega | kernel_rfl) ?_) | (refine AW.fin ?_;try (simp -implicitDefEqProofs [-Bool.exists_bool];try simp (disch:=omega) only [w64,wu64])) | (refine AW.cond rfl ?_ (fun _=>?_);focus (intro h;simp -implicitDefEqProofs [-Bool.exists_bool] at h;done)) | (refine AW.cond rfl (fun _=>?_) ?_;rotate_left;focus (intro h;simp -implicitDefEqProofs [-Bool.exists_bool] at h;done)) | (refine CallS.pu c1 ?_;try (simp -implicitDefEqProofs [-Bool.exists_bool];try simp (disch:=omega) only [w64,wu64])) | refine Exists.intro _ (And.intro c1 ?_) | (refine CallS.pu c2 ?_;try (simp -implicitDefEqProofs [-Bool.exists_bool];try simp (disch:=omega) only [w64,wu64])) | refine Exists.intro _ (And.intro c2 ?_) | (refine CallS.pu c3 ?_;try (simp -implicitDefEqProofs [-Bool.exists_bool];try simp (disch:=omega) only [w64,wu64])) | refine Exists.intro _ (And.intro c3 ?_) | (refine CallS.pu c4 ?_;try (simp -implicitDefEqProofs [-Bool.exists_bool];try simp (disch:=omega) only [w64,wu64])) | refine Exists.intro _ (And.intro c4 ?_) | (refine CallS.pu c5 ?_;try (simp -implicitDefEqProofs [-Bool.exists_bool];try simp (disch:=omega) only [w64,wu64])) | refine Exists.intro _ (And.intro c5 ?_) | (refine CallS.pu c6 ?_;try (simp -implicitDefEqProofs [-Bool.exists_bool];try simp (disch:=omega) only [w64,wu64])) | refine Exists.intro _ (And.intro c6 ?_))
  try exact hp.v
 ·with_reducible first | exact Tri.tt | exact Tri.any _):q:=(h k1 k2 k3 k4 k5 k6).1 ⟨hp⟩
theorem G1B {q f1:Prop} {p:f1→Prop} (f:f1) (hp:(p f)) (h:∀f1:f1,(Hid (p f1)→q)∧Tri (p f1):=by
 intro f1
 constructor
 ·intro hp
  repeat (first | refine AW.seq ?_ | refine AW.block ?_ | (refine AW.reg mix ?_;(simp -implicitDefEqProofs [-Bool.exists_bool,f1];try simp (disch:=omega) only [w64,wu64])) | (refine need.of (by first | omega | kernel_rfl) ?_) | (refine AW.fin ?_;try (simp -implicitDefEqProofs [-Bool.exists_bool,f1];try simp (disch:=omega) only [w64,wu64])))
  try exact hp.v
 ·with_reducible first | exact Tri.tt | exact Tri.any _):q:=(h f).1 ⟨hp⟩
theorem R1B {q f1:Prop} {p:f1→Prop} (f:f1) (hp:(p f)) (h:∀f1:f1,(Hid (p f1)→q)∧Tri (p f1):=by
 intro f1
 constructor
 ·intro hp
  try (simp -implicitDefEqProofs [-Bool.exists_bool,f1];try simp (disch:=omega) only [w64,wu64])
  repeat (first | refine AW.seq ?_ | refine AW.block ?_ | (refine AW.reg mix ?_;(simp -implicitDefEqProofs [-Bool.exists_bool,f1];try simp (disch:=omega) only [w64,wu64])) | (refine need.of (by first | omega | kernel_rfl) ?_) | (refine AW.fin ?_;try (simp -implicitDefEqProofs [-Bool.exists_bool,f1];try simp (disch:=omega) only [w64,wu64])))
  try exact hp.v
 ·with_reducible first | exact Tri.tt | exact Tri.any _):q:=(h f).1 ⟨hp⟩
end
section
open Go.Proofs.YtidfejfgmlakpaaGreat.Am
theorem mix:Tryz.prog.follows .mixedOrders=true:=by kernel_rfl
@[simp] def om_ (d s:Nat) (l:List Nat):O:=⟨some d,.mv (.t s),none,l⟩
@[simp] def oo_ (d:Nat) (a:A) (l:List Nat):O:=⟨some d,a,none,l⟩
@[simp] def og_ (d:Nat) (a:A) (s:Nat) (b:Bool) (l:List Nat):O:=⟨some d,a,some (s,b),l⟩
@[simp] def on_ (a:A) (l:List Nat):O:=⟨none,a,none,l⟩
noncomputable def codeOf (P:Program) (f:FuncId):C:=match fnOf P f with | some x=>x.1 | none=>.skip
theorem fno {P:Program} {f:FuncId} {rs:List RV} {nt:Nat} (h:((fnOf P f).map fun x=>x.2)=some (rs,nt,false)):fnOf P f=some (codeOf P f,rs,nt,false):=by
 unfold codeOf
 cases e:fnOf P f with
 | none=>rw [e] at h;cases h
 | some x=>rw [e] at h;simp only [Option.map_some,Option.some.injEq] at h;simp only [←h]
theorem cc {P:Program} {N:Nat} {c c':C} {Q:Exit→List V→List (Option Ob)→Prop} {T:List V} {H:List (Option Ob)} (h:c=c') (k:AW P N c' Q T H):AW P N c Q T H:=h▸k

abbrev o_7s:FuncId:=3
noncomputable def o_7t:C:=codeOf Tryz.prog o_7s
theorem o_7u:fnOf Tryz.prog o_7s=some (o_7t,[.t 4],141,false):=fno (by kernel_rfl)

abbrev o_7v:FuncId:=4
noncomputable def o_7w:C:=codeOf Tryz.prog o_7v
theorem o_7x:fnOf Tryz.prog o_7v=some (o_7w,[.cell 4 true 3,.cell 5 true 3],66,false):=fno (by kernel_rfl)

abbrev o_7y:FuncId:=5
noncomputable def o_7z:C:=codeOf Tryz.prog o_7y
theorem o_80:fnOf Tryz.prog o_7y=some (o_7z,[.cell 2 true 3],10,false):=fno (by kernel_rfl)

abbrev o_81:FuncId:=6
noncomputable def o_82:C:=codeOf Tryz.prog o_81
theorem o_83:fnOf Tryz.prog o_81=some (o_82,[.cell 4 false 1,.cell 5 false 1],13,false):=fno (by kernel_rfl)

abbrev o_84:FuncId:=7
noncomputable def o_85:C:=codeOf Tryz.prog o_84
theorem o_86:fnOf Tryz.prog o_84=some (o_85,[.cell 5 true 3,.t 6],41,false):=fno (by kernel_rfl)

abbrev o_87:FuncId:=8
noncomputable def o_88:C:=codeOf Tryz.prog o_87
theorem o_89:fnOf Tryz.prog o_87=some (o_88,[.cell 8 true 3,.t 9],52,false):=fno (by kernel_rfl)

abbrev o_8a:FuncId:=9
noncomputable def o_8b:C:=codeOf Tryz.prog o_8a
theorem o_8c:fnOf Tryz.prog o_8a=some (o_8b,[.cell 8 true 3,.t 9],55,false):=fno (by kernel_rfl)

abbrev o_8d:FuncId:=10
noncomputable def o_8e:C:=codeOf Tryz.prog o_8d
theorem o_8f:fnOf Tryz.prog o_8d=some (o_8e,[.t 6,.t 7],43,false):=fno (by kernel_rfl)

abbrev o_8g:FuncId:=11
noncomputable def o_8h:C:=codeOf Tryz.prog o_8g
theorem o_8i:fnOf Tryz.prog o_8g=some (o_8h,[.t 6,.t 7],100,false):=fno (by kernel_rfl)

abbrev o_8j:FuncId:=12
noncomputable def o_8k:C:=codeOf Tryz.prog o_8j
theorem o_8l:fnOf Tryz.prog o_8j=some (o_8k,[.cell 2 true 3],6,false):=fno (by kernel_rfl)

abbrev o_8m:FuncId:=13
noncomputable def o_8n:C:=codeOf Tryz.prog o_8m
theorem o_8o:fnOf Tryz.prog o_8m=some (o_8n,[.cell 4 true 3,.t 5],13,false):=fno (by kernel_rfl)

abbrev o_8p:FuncId:=14
noncomputable def o_8q:C:=codeOf Tryz.prog o_8p
theorem o_8r:fnOf Tryz.prog o_8p=some (o_8q,[.t 4],16,false):=fno (by kernel_rfl)

abbrev o_8s:FuncId:=15
noncomputable def o_8t:C:=codeOf Tryz.prog o_8s
theorem o_8u:fnOf Tryz.prog o_8s=some (o_8t,[.cell 4 true 3],22,false):=fno (by kernel_rfl)

abbrev o_8v:FuncId:=16
noncomputable def o_8w:C:=codeOf Tryz.prog o_8v
theorem o_8x:fnOf Tryz.prog o_8v=some (o_8w,[.cell 4 true 3],58,false):=fno (by kernel_rfl)

abbrev o_8y:FuncId:=17
noncomputable def o_8z:C:=codeOf Tryz.prog o_8y
theorem o_90:fnOf Tryz.prog o_8y=some (o_8z,[],64,false):=fno (by kernel_rfl)

abbrev o_91:FuncId:=18
noncomputable def o_92:C:=codeOf Tryz.prog o_91
theorem o_93:fnOf Tryz.prog o_91=some (o_92,[.t 2],11,false):=fno (by kernel_rfl)

abbrev o_94:FuncId:=19
noncomputable def o_95:C:=codeOf Tryz.prog o_94
theorem o_96:fnOf Tryz.prog o_94=some (o_95,[.t 4],24,false):=fno (by kernel_rfl)

abbrev o_97:FuncId:=20
noncomputable def o_98:C:=codeOf Tryz.prog o_97
theorem o_99:fnOf Tryz.prog o_97=some (o_98,[.cell 2 true 2],8,false):=fno (by kernel_rfl)

abbrev o_9a:FuncId:=21
noncomputable def o_9b:C:=codeOf Tryz.prog o_9a
theorem o_9c:fnOf Tryz.prog o_9a=some (o_9b,[.cell 8 true 3,.t 9],44,false):=fno (by kernel_rfl)

abbrev o_9d:FuncId:=22
noncomputable def o_9e:C:=codeOf Tryz.prog o_9d
theorem o_9f:fnOf Tryz.prog o_9d=some (o_9e,[.cell 2 true 3],10,false):=fno (by kernel_rfl)

abbrev o_9g:FuncId:=23
noncomputable def o_9h:C:=codeOf Tryz.prog o_9g
theorem o_9i:fnOf Tryz.prog o_9g=some (o_9h,[.cell 2 true 3],10,false):=fno (by kernel_rfl)

abbrev o_9j:FuncId:=24
noncomputable def o_9k:C:=codeOf Tryz.prog o_9j
theorem o_9l:fnOf Tryz.prog o_9j=some (o_9k,[.cell 2 true 3],10,false):=fno (by kernel_rfl)

abbrev o_9m:FuncId:=25
noncomputable def o_9n:C:=codeOf Tryz.prog o_9m
theorem o_9o:fnOf Tryz.prog o_9m=some (o_9n,[.cell 8 true 2,.t 9],55,false):=fno (by kernel_rfl)

abbrev o_9p:FuncId:=26
noncomputable def o_9q:C:=codeOf Tryz.prog o_9p
theorem o_9r:fnOf Tryz.prog o_9p=some (o_9q,[.cell 2 true 2],8,false):=fno (by kernel_rfl)

abbrev o_9s:FuncId:=27
noncomputable def o_9t:C:=codeOf Tryz.prog o_9s
theorem o_9u:fnOf Tryz.prog o_9s=some (o_9t,[.cell 2 true 3],8,false):=fno (by kernel_rfl)

abbrev o_9v:FuncId:=28
noncomputable def o_9w:C:=codeOf Tryz.prog o_9v
theorem o_9x:fnOf Tryz.prog o_9v=some (o_9w,[.cell 8 true 3,.t 9],79,false):=fno (by kernel_rfl)

abbrev o_9y:FuncId:=29
noncomputable def o_9z:C:=codeOf Tryz.prog o_9y
theorem o_a0:fnOf Tryz.prog o_9y=some (o_9z,[.cell 8 true 2,.t 9],54,false):=fno (by kernel_rfl)

abbrev o_a1:FuncId:=30
noncomputable def o_a2:C:=codeOf Tryz.prog o_a1
theorem o_a3:fnOf Tryz.prog o_a1=some (o_a2,[.t 4],14,false):=fno (by kernel_rfl)

abbrev o_a4:FuncId:=31
noncomputable def o_a5:C:=codeOf Tryz.prog o_a4
theorem o_a6:fnOf Tryz.prog o_a4=some (o_a5,[.t 2],16,false):=fno (by kernel_rfl)

abbrev o_a7:FuncId:=32
noncomputable def o_a8:C:=codeOf Tryz.prog o_a7
theorem o_a9:fnOf Tryz.prog o_a7=some (o_a8,[.t 2],7,false):=fno (by kernel_rfl)

abbrev o_aa:FuncId:=33
noncomputable def o_ab:C:=codeOf Tryz.prog o_aa
theorem o_ac:fnOf Tryz.prog o_aa=some (o_ab,[.t 4],40,false):=fno (by kernel_rfl)

abbrev o_ad:FuncId:=34
noncomputable def o_ae:C:=codeOf Tryz.prog o_ad
theorem o_af:fnOf Tryz.prog o_ad=some (o_ae,[.t 3],7,false):=fno (by kernel_rfl)

abbrev o_ag:FuncId:=35
noncomputable def o_ah:C:=codeOf Tryz.prog o_ag
theorem o_ai:fnOf Tryz.prog o_ag=some (o_ah,[.t 4],36,false):=fno (by kernel_rfl)

abbrev o_aj:FuncId:=36
noncomputable def o_ak:C:=codeOf Tryz.prog o_aj
theorem o_al:fnOf Tryz.prog o_aj=some (o_ak,[.t 2],26,false):=fno (by kernel_rfl)

abbrev o_am:FuncId:=37
noncomputable def o_an:C:=codeOf Tryz.prog o_am
theorem o_ao:fnOf Tryz.prog o_am=some (o_an,[.t 2],36,false):=fno (by kernel_rfl)

abbrev o_ap:FuncId:=38
noncomputable def o_aq:C:=codeOf Tryz.prog o_ap
theorem o_ar:fnOf Tryz.prog o_ap=some (o_aq,[.t 4],16,false):=fno (by kernel_rfl)

abbrev o_as:FuncId:=39
noncomputable def o_at:C:=codeOf Tryz.prog o_as
theorem o_au:fnOf Tryz.prog o_as=some (o_at,[.t 6],79,false):=fno (by kernel_rfl)

abbrev o_av:FuncId:=40
noncomputable def o_aw:C:=codeOf Tryz.prog o_av
theorem o_ax:fnOf Tryz.prog o_av=some (o_aw,[],13,false):=fno (by kernel_rfl)

abbrev o_ay:FuncId:=41
noncomputable def o_az:C:=codeOf Tryz.prog o_ay
theorem o_b0:fnOf Tryz.prog o_ay=some (o_az,[.cell 4 true 3],16,false):=fno (by kernel_rfl)

abbrev o_b1:FuncId:=42
noncomputable def o_b2:C:=codeOf Tryz.prog o_b1
theorem o_b3:fnOf Tryz.prog o_b1=some (o_b2,[.cell 2 true 2],16,false):=fno (by kernel_rfl)

abbrev o_b4:FuncId:=43
noncomputable def o_b5:C:=codeOf Tryz.prog o_b4
theorem o_b6:fnOf Tryz.prog o_b4=some (o_b5,[.cell 4 true 3,.t 5],21,false):=fno (by kernel_rfl)

abbrev o_b7:FuncId:=44
noncomputable def o_b8:C:=codeOf Tryz.prog o_b7
theorem o_b9:fnOf Tryz.prog o_b7=some (o_b8,[.t 4],28,false):=fno (by kernel_rfl)

abbrev o_ba:FuncId:=45
noncomputable def o_bb:C:=codeOf Tryz.prog o_ba
theorem o_bc:fnOf Tryz.prog o_ba=some (o_bb,[.cell 4 true 2],16,false):=fno (by kernel_rfl)

abbrev o_bd:FuncId:=46
noncomputable def o_be:C:=codeOf Tryz.prog o_bd
theorem o_bf:fnOf Tryz.prog o_bd=some (o_be,[.cell 2 true 2],6,false):=fno (by kernel_rfl)

abbrev o_bg:FuncId:=47
noncomputable def o_bh:C:=codeOf Tryz.prog o_bg
theorem o_bi:fnOf Tryz.prog o_bg=some (o_bh,[.cell 4 true 3],46,false):=fno (by kernel_rfl)

abbrev o_bj:FuncId:=48
noncomputable def o_bk:C:=codeOf Tryz.prog o_bj
theorem o_bl:fnOf Tryz.prog o_bj=some (o_bk,[.cell 4 true 2],48,false):=fno (by kernel_rfl)

abbrev o_bm:FuncId:=49
noncomputable def o_bn:C:=codeOf Tryz.prog o_bm
theorem o_bo:fnOf Tryz.prog o_bm=some (o_bn,[.cell 4 true 1],85,false):=fno (by kernel_rfl)

abbrev o_bp:FuncId:=50
noncomputable def o_bq:C:=codeOf Tryz.prog o_bp
theorem o_br:fnOf Tryz.prog o_bp=some (o_bq,[.cell 2 true 1],8,false):=fno (by kernel_rfl)

abbrev o_bs:FuncId:=51
noncomputable def o_bt:C:=codeOf Tryz.prog o_bs
theorem o_bu:fnOf Tryz.prog o_bs=some (o_bt,[.t 2],8,false):=fno (by kernel_rfl)

abbrev o_bv:FuncId:=52
noncomputable def o_bw:C:=codeOf Tryz.prog o_bv
theorem o_bx:fnOf Tryz.prog o_bv=some (o_bw,[.t 2],12,false):=fno (by kernel_rfl)

abbrev o_by:FuncId:=53
noncomputable def o_bz:C:=codeOf Tryz.prog o_by
theorem o_c0:fnOf Tryz.prog o_by=some (o_bz,[.t 4],45,false):=fno (by kernel_rfl)

abbrev o_c1:FuncId:=54
noncomputable def o_c2:C:=codeOf Tryz.prog o_c1
theorem o_c3:fnOf Tryz.prog o_c1=some (o_c2,[.t 4],24,false):=fno (by kernel_rfl)

abbrev o_c4:FuncId:=55
noncomputable def o_c5:C:=codeOf Tryz.prog o_c4
theorem o_c6:fnOf Tryz.prog o_c4=some (o_c5,[.cell 6 true 3,.t 7],31,false):=fno (by kernel_rfl)

abbrev o_c7:FuncId:=56
noncomputable def o_c8:C:=codeOf Tryz.prog o_c7
theorem o_c9:fnOf Tryz.prog o_c7=some (o_c8,[.t 4],28,false):=fno (by kernel_rfl)

abbrev o_ca:FuncId:=57
noncomputable def o_cb:C:=codeOf Tryz.prog o_ca
theorem o_cc:fnOf Tryz.prog o_ca=some (o_cb,[.t 2],20,false):=fno (by kernel_rfl)

abbrev o_cd:FuncId:=58
noncomputable def o_ce:C:=codeOf Tryz.prog o_cd
theorem o_cf:fnOf Tryz.prog o_cd=some (o_ce,[.cell 6 true 2,.t 7],31,false):=fno (by kernel_rfl)

abbrev o_cg:FuncId:=59
noncomputable def o_ch:C:=codeOf Tryz.prog o_cg
theorem o_ci:fnOf Tryz.prog o_cg=some (o_ch,[.t 4,.t 5],12,false):=fno (by kernel_rfl)

abbrev o_cj:FuncId:=60
noncomputable def o_ck:C:=codeOf Tryz.prog o_cj
theorem o_cl:fnOf Tryz.prog o_cj=some (o_ck,[.t 2],10,false):=fno (by kernel_rfl)

abbrev o_cm:FuncId:=61
noncomputable def o_cn:C:=codeOf Tryz.prog o_cm
theorem o_co:fnOf Tryz.prog o_cm=some (o_cn,[.cell 6 true 3,.t 7],33,false):=fno (by kernel_rfl)

abbrev o_cp:FuncId:=62
noncomputable def o_cq:C:=codeOf Tryz.prog o_cp
theorem o_cr:fnOf Tryz.prog o_cp=some (o_cq,[.cell 6 true 3,.t 7],36,false):=fno (by kernel_rfl)

abbrev o_cs:FuncId:=63
noncomputable def o_ct:C:=codeOf Tryz.prog o_cs
theorem o_cu:fnOf Tryz.prog o_cs=some (o_ct,[.t 5,.t 6],14,false):=fno (by kernel_rfl)

abbrev o_cv:FuncId:=64
noncomputable def o_cw:C:=codeOf Tryz.prog o_cv
theorem o_cx:fnOf Tryz.prog o_cv=some (o_cw,[.t 4],9,false):=fno (by kernel_rfl)

abbrev o_cy:FuncId:=65
noncomputable def o_cz:C:=codeOf Tryz.prog o_cy
theorem o_d0:fnOf Tryz.prog o_cy=some (o_cz,[.t 3],8,false):=fno (by kernel_rfl)

abbrev o_d1:FuncId:=66
noncomputable def o_d2:C:=codeOf Tryz.prog o_d1
theorem o_d3:fnOf Tryz.prog o_d1=some (o_d2,[.t 6],20,false):=fno (by kernel_rfl)

abbrev o_d4:FuncId:=67
noncomputable def o_d5:C:=codeOf Tryz.prog o_d4
theorem o_d6:fnOf Tryz.prog o_d4=some (o_d5,[.cell 2 true 3],11,false):=fno (by kernel_rfl)

abbrev o_d7:FuncId:=68
noncomputable def o_d8:C:=codeOf Tryz.prog o_d7
theorem o_d9:fnOf Tryz.prog o_d7=some (o_d8,[.t 3],7,false):=fno (by kernel_rfl)

abbrev o_da:FuncId:=69
noncomputable def o_db:C:=codeOf Tryz.prog o_da
theorem o_dc:fnOf Tryz.prog o_da=some (o_db,[.t 4],29,false):=fno (by kernel_rfl)

abbrev o_dd:FuncId:=70
noncomputable def o_de:C:=codeOf Tryz.prog o_dd
theorem o_df:fnOf Tryz.prog o_dd=some (o_de,[.cell 2 true 3],10,false):=fno (by kernel_rfl)

abbrev o_dg:FuncId:=71
noncomputable def o_dh:C:=codeOf Tryz.prog o_dg
theorem o_di:fnOf Tryz.prog o_dg=some (o_dh,[.cell 4 true 3,.t 5],27,false):=fno (by kernel_rfl)

abbrev o_dj:FuncId:=72
noncomputable def o_dk:C:=codeOf Tryz.prog o_dj
theorem o_dl:fnOf Tryz.prog o_dj=some (o_dk,[.t 6],26,false):=fno (by kernel_rfl)

abbrev o_dm:FuncId:=73
abbrev o_dn:FuncId:=74
noncomputable def o_do:C:=codeOf Tryz.prog o_dn
theorem o_dp:fnOf Tryz.prog o_dn=some (o_do,[.t 4],30,false):=fno (by kernel_rfl)

abbrev o_dq:FuncId:=75
noncomputable def o_dr:C:=codeOf Tryz.prog o_dq
theorem o_ds:fnOf Tryz.prog o_dq=some (o_dr,[.t 4],27,false):=fno (by kernel_rfl)

abbrev o_dt:FuncId:=76
noncomputable def o_du:C:=codeOf Tryz.prog o_dt
theorem o_dv:fnOf Tryz.prog o_dt=some (o_du,[.t 6],32,false):=fno (by kernel_rfl)

abbrev o_dw:FuncId:=77
noncomputable def o_dx:C:=codeOf Tryz.prog o_dw
theorem o_dy:fnOf Tryz.prog o_dw=some (o_dx,[.t 4],16,false):=fno (by kernel_rfl)

abbrev o_dz:FuncId:=78
noncomputable def o_e0:C:=codeOf Tryz.prog o_dz
theorem o_e1:fnOf Tryz.prog o_dz=some (o_e0,[.t 3],7,false):=fno (by kernel_rfl)

abbrev o_e2:FuncId:=79
noncomputable def o_e3:C:=codeOf Tryz.prog o_e2
theorem o_e4:fnOf Tryz.prog o_e2=some (o_e3,[.cell 4 true 2],13,false):=fno (by kernel_rfl)

abbrev o_e5:FuncId:=80
noncomputable def o_e6:C:=codeOf Tryz.prog o_e5
theorem o_e7:fnOf Tryz.prog o_e5=some (o_e6,[.cell 2 true 1],6,false):=fno (by kernel_rfl)

abbrev o_e8:FuncId:=81
noncomputable def o_e9:C:=codeOf Tryz.prog o_e8
theorem o_ea:fnOf Tryz.prog o_e8=some (o_e9,[.cell 2 true 1],5,false):=fno (by kernel_rfl)

abbrev o_eb:FuncId:=82
noncomputable def o_ec:C:=codeOf Tryz.prog o_eb
theorem o_ed:fnOf Tryz.prog o_eb=some (o_ec,[.t 2],7,false):=fno (by kernel_rfl)

abbrev o_ee:FuncId:=83
noncomputable def o_ef:C:=codeOf Tryz.prog o_ee
theorem o_eg:fnOf Tryz.prog o_ee=some (o_ef,[.t 2],5,false):=fno (by kernel_rfl)

abbrev o_eh:FuncId:=84
noncomputable def o_ei:C:=codeOf Tryz.prog o_eh
theorem o_ej:fnOf Tryz.prog o_eh=some (o_ei,[.t 4],47,false):=fno (by kernel_rfl)

abbrev o_ek:FuncId:=85
noncomputable def o_el:C:=codeOf Tryz.prog o_ek
theorem o_em:fnOf Tryz.prog o_ek=some (o_el,[.cell 4 true 1],23,false):=fno (by kernel_rfl)

abbrev o_en:FuncId:=86
noncomputable def o_eo:C:=codeOf Tryz.prog o_en
theorem o_ep:fnOf Tryz.prog o_en=some (o_eo,[.cell 4 true 1,.cell 5 true 1,.t 6],49,false):=fno (by kernel_rfl)

abbrev o_eq:FuncId:=87
noncomputable def o_er:C:=codeOf Tryz.prog o_eq
theorem o_es:fnOf Tryz.prog o_eq=some (o_er,[.cell 4 true 1,.t 5],51,false):=fno (by kernel_rfl)

abbrev o_et:FuncId:=88
noncomputable def o_eu:C:=codeOf Tryz.prog o_et
theorem o_ev:fnOf Tryz.prog o_et=some (o_eu,[.cell 4 true 1],61,false):=fno (by kernel_rfl)

abbrev o_ew:FuncId:=89
noncomputable def o_ex:C:=codeOf Tryz.prog o_ew
theorem o_ey:fnOf Tryz.prog o_ew=some (o_ex,[.t 4,.t 5],51,false):=fno (by kernel_rfl)

abbrev o_ez:FuncId:=91
noncomputable def o_f0:C:=codeOf Tryz.prog o_ez
theorem o_f1:fnOf Tryz.prog o_ez=some (o_f0,[.cell 2 true 1],22,false):=fno (by kernel_rfl)

abbrev o_f2:FuncId:=92
noncomputable def o_f3:C:=codeOf Tryz.prog o_f2
theorem o_f4:fnOf Tryz.prog o_f2=some (o_f3,[.t 2],21,false):=fno (by kernel_rfl)

abbrev o_f5:FuncId:=93
noncomputable def o_f6:C:=codeOf Tryz.prog o_f5
theorem o_f7:fnOf Tryz.prog o_f5=some (o_f6,[.t 2],39,false):=fno (by kernel_rfl)

abbrev o_f8:FuncId:=94
noncomputable def o_f9:C:=codeOf Tryz.prog o_f8
theorem o_fa:fnOf Tryz.prog o_f8=some (o_f9,[.t 4],46,false):=fno (by kernel_rfl)

abbrev o_fb:FuncId:=95
noncomputable def o_fc:C:=codeOf Tryz.prog o_fb
theorem o_fd:fnOf Tryz.prog o_fb=some (o_fc,[.t 4,.t 5],21,false):=fno (by kernel_rfl)

abbrev o_fe:FuncId:=96
noncomputable def o_ff:C:=codeOf Tryz.prog o_fe
theorem o_fg:fnOf Tryz.prog o_fe=some (o_ff,[.t 4,.t 5],26,false):=fno (by kernel_rfl)

abbrev o_fh:FuncId:=97
noncomputable def o_fi:C:=codeOf Tryz.prog o_fh
theorem o_fj:fnOf Tryz.prog o_fh=some (o_fi,[.t 4],19,false):=fno (by kernel_rfl)

abbrev o_fk:FuncId:=98
noncomputable def o_fl:C:=codeOf Tryz.prog o_fk
theorem o_fm:fnOf Tryz.prog o_fk=some (o_fl,[.cell 4 true 3],13,false):=fno (by kernel_rfl)

abbrev o_fn:FuncId:=99
noncomputable def o_fo:C:=codeOf Tryz.prog o_fn
theorem o_fp:fnOf Tryz.prog o_fn=some (o_fo,[.cell 2 true 3,.t 3],20,false):=fno (by kernel_rfl)

abbrev o_fq:FuncId:=100
noncomputable def o_fr:C:=codeOf Tryz.prog o_fq
theorem o_fs:fnOf Tryz.prog o_fq=some (o_fr,[.t 2],50,false):=fno (by kernel_rfl)

abbrev o_ft:FuncId:=101
noncomputable def o_fu:C:=codeOf Tryz.prog o_ft
theorem o_fv:fnOf Tryz.prog o_ft=some (o_fu,[.t 3],7,false):=fno (by kernel_rfl)

abbrev o_fw:FuncId:=103
noncomputable def o_fx:C:=codeOf Tryz.prog o_fw
theorem o_fy:fnOf Tryz.prog o_fw=some (o_fx,[.t 2],8,false):=fno (by kernel_rfl)

abbrev o_fz:FuncId:=104
noncomputable def o_g0:C:=codeOf Tryz.prog o_fz
theorem o_g1:fnOf Tryz.prog o_fz=some (o_g0,[.t 2],18,false):=fno (by kernel_rfl)

abbrev o_g2:FuncId:=105
noncomputable def o_g3:C:=codeOf Tryz.prog o_g2
theorem o_g4:fnOf Tryz.prog o_g2=some (o_g3,[.t 4],20,false):=fno (by kernel_rfl)

abbrev o_g5:FuncId:=106
noncomputable def o_g6:C:=codeOf Tryz.prog o_g5
theorem o_g7:fnOf Tryz.prog o_g5=some (o_g6,[.t 2],4,false):=fno (by kernel_rfl)

abbrev o_g8:FuncId:=107
noncomputable def o_g9:C:=codeOf Tryz.prog o_g8
theorem o_ga:fnOf Tryz.prog o_g8=some (o_g9,[.t 4],27,false):=fno (by kernel_rfl)

abbrev o_gb:FuncId:=108
noncomputable def o_gc:C:=codeOf Tryz.prog o_gb
theorem o_gd:fnOf Tryz.prog o_gb=some (o_gc,[.cell 4 true 3,.t 5],19,false):=fno (by kernel_rfl)

abbrev o_ge:FuncId:=109
noncomputable def o_gf:C:=codeOf Tryz.prog o_ge
theorem o_gg:fnOf Tryz.prog o_ge=some (o_gf,[.t 3],13,false):=fno (by kernel_rfl)

abbrev o_gh:FuncId:=110
noncomputable def o_gi:C:=codeOf Tryz.prog o_gh
theorem o_gj:fnOf Tryz.prog o_gh=some (o_gi,[.t 2],8,false):=fno (by kernel_rfl)

abbrev o_gk:FuncId:=111
noncomputable def o_gl:C:=codeOf Tryz.prog o_gk
theorem o_gm:fnOf Tryz.prog o_gk=some (o_gl,[.t 4,.t 5],34,false):=fno (by kernel_rfl)

abbrev o_gn:FuncId:=112
noncomputable def o_go:C:=codeOf Tryz.prog o_gn
theorem o_gp:fnOf Tryz.prog o_gn=some (o_go,[.cell 4 true 1,.cell 5 true 1,.t 6],65,false):=fno (by kernel_rfl)

abbrev o_gq:FuncId:=114
noncomputable def o_gr:C:=codeOf Tryz.prog o_gq
theorem o_gs:fnOf Tryz.prog o_gq=some (o_gr,[.t 2,.t 3],47,false):=fno (by kernel_rfl)

abbrev o_gt:FuncId:=115
noncomputable def o_gu:C:=codeOf Tryz.prog o_gt
theorem o_gv:fnOf Tryz.prog o_gt=some (o_gu,[.cell 2 true 2],9,false):=fno (by kernel_rfl)

abbrev o_gw:FuncId:=116
noncomputable def o_gx:C:=codeOf Tryz.prog o_gw
theorem o_gy:fnOf Tryz.prog o_gw=some (o_gx,[.cell 4 true 1,.t 5],23,false):=fno (by kernel_rfl)

abbrev o_gz:FuncId:=117
noncomputable def o_h0:C:=codeOf Tryz.prog o_gz
theorem o_h1:fnOf Tryz.prog o_gz=some (o_h0,[.cell 2 true 3],6,false):=fno (by kernel_rfl)

abbrev o_h2:FuncId:=127
noncomputable def o_h3:C:=codeOf Tryz.prog o_h2
theorem o_h4:fnOf Tryz.prog o_h2=some (o_h3,[.t 2],25,false):=fno (by kernel_rfl)

abbrev o_h5:FuncId:=128
noncomputable def o_h6:C:=codeOf Tryz.prog o_h5
theorem o_h7:fnOf Tryz.prog o_h5=some (o_h6,[.t 2],6,false):=fno (by kernel_rfl)

abbrev o_h8:FuncId:=129
noncomputable def o_h9:C:=codeOf Tryz.prog o_h8
theorem o_ha:fnOf Tryz.prog o_h8=some (o_h9,[.t 6,.t 7],135,false):=fno (by kernel_rfl)

abbrev o_hb:FuncId:=130
noncomputable def o_hc:C:=codeOf Tryz.prog o_hb
theorem o_hd:fnOf Tryz.prog o_hb=some (o_hc,[.t 2],6,false):=fno (by kernel_rfl)

abbrev o_he:FuncId:=131
noncomputable def o_hf:C:=codeOf Tryz.prog o_he
theorem o_hg:fnOf Tryz.prog o_he=some (o_hf,[.t 4],38,false):=fno (by kernel_rfl)

abbrev o_hh:FuncId:=132
noncomputable def o_hi:C:=codeOf Tryz.prog o_hh
theorem o_hj:fnOf Tryz.prog o_hh=some (o_hi,[.t 4],87,false):=fno (by kernel_rfl)

abbrev o_hk:FuncId:=133
noncomputable def o_hl:C:=codeOf Tryz.prog o_hk
theorem o_hm:fnOf Tryz.prog o_hk=some (o_hl,[.cell 4 true 1],59,false):=fno (by kernel_rfl)

abbrev o_hn:FuncId:=139
noncomputable def o_ho:C:=codeOf Tryz.prog o_hn
theorem o_hp:fnOf Tryz.prog o_hn=some (o_ho,[.t 6],68,false):=fno (by kernel_rfl)

abbrev o_hq:FuncId:=158
noncomputable def o_hr:C:=codeOf Tryz.prog o_hq
theorem o_hs:fnOf Tryz.prog o_hq=some (o_hr,[.t 2],20,false):=fno (by kernel_rfl)

abbrev o_ht:FuncId:=160
noncomputable def o_hu:C:=codeOf Tryz.prog o_ht
theorem o_hv:fnOf Tryz.prog o_ht=some (o_hu,[.t 8,.t 9],17,false):=fno (by kernel_rfl)

abbrev o_hw:FuncId:=161
noncomputable def o_hx:C:=codeOf Tryz.prog o_hw
theorem o_hy:fnOf Tryz.prog o_hw=some (o_hx,[.cell 4 true 3,.t 5],11,false):=fno (by kernel_rfl)

abbrev o_hz:FuncId:=162
noncomputable def o_i0:C:=codeOf Tryz.prog o_hz
theorem o_i1:fnOf Tryz.prog o_hz=some (o_i0,[.t 2],5,false):=fno (by kernel_rfl)

abbrev o_i2:FuncId:=164
noncomputable def o_i3:C:=codeOf Tryz.prog o_i2
theorem o_i4:fnOf Tryz.prog o_i2=some (o_i3,[.t 6,.t 7],14,false):=fno (by kernel_rfl)

abbrev o_i5:FuncId:=166
noncomputable def o_i6:C:=codeOf Tryz.prog o_i5
theorem o_i7:fnOf Tryz.prog o_i5=some (o_i6,[.t 8,.t 9],27,false):=fno (by kernel_rfl)

abbrev o_i8:FuncId:=167
noncomputable def o_i9:C:=codeOf Tryz.prog o_i8
theorem o_ia:fnOf Tryz.prog o_i8=some (o_i9,[.cell 4 true 3,.t 5],29,false):=fno (by kernel_rfl)

abbrev o_ib:FuncId:=168
noncomputable def o_ic:C:=codeOf Tryz.prog o_ib
theorem o_id:fnOf Tryz.prog o_ib=some (o_ic,[.t 2],9,false):=fno (by kernel_rfl)

abbrev o_ie:FuncId:=169
noncomputable def o_if:C:=codeOf Tryz.prog o_ie
theorem o_ig:fnOf Tryz.prog o_ie=some (o_if,[.t 6,.t 7],22,false):=fno (by kernel_rfl)

abbrev o_ih:FuncId:=170
noncomputable def o_ii:C:=codeOf Tryz.prog o_ih
theorem o_ij:fnOf Tryz.prog o_ih=some (o_ii,[.t 4],23,false):=fno (by kernel_rfl)

abbrev o_ik:FuncId:=171
noncomputable def o_il:C:=codeOf Tryz.prog o_ik
theorem o_im:fnOf Tryz.prog o_ik=some (o_il,[.t 6,.t 7],22,false):=fno (by kernel_rfl)

abbrev o_in:FuncId:=172
noncomputable def o_io:C:=codeOf Tryz.prog o_in
theorem o_ip:fnOf Tryz.prog o_in=some (o_io,[.cell 4 true 3,.t 5],44,false):=fno (by kernel_rfl)

abbrev o_iq:FuncId:=173
noncomputable def o_ir:C:=codeOf Tryz.prog o_iq
theorem o_is:fnOf Tryz.prog o_iq=some (o_ir,[.t 8,.t 9],31,false):=fno (by kernel_rfl)

abbrev o_it:FuncId:=174
noncomputable def o_iu:C:=codeOf Tryz.prog o_it
theorem o_iv:fnOf Tryz.prog o_it=some (o_iu,[.cell 4 true 1,.t 5],44,false):=fno (by kernel_rfl)

abbrev o_iw:FuncId:=175
noncomputable def o_ix:C:=codeOf Tryz.prog o_iw
theorem o_iy:fnOf Tryz.prog o_iw=some (o_ix,[.t 4],14,false):=fno (by kernel_rfl)

abbrev o_iz:FuncId:=176
noncomputable def o_j0:C:=codeOf Tryz.prog o_iz
theorem o_j1:fnOf Tryz.prog o_iz=some (o_j0,[.t 6,.t 7],61,false):=fno (by kernel_rfl)

abbrev o_j2:FuncId:=177
noncomputable def o_j3:C:=codeOf Tryz.prog o_j2
theorem o_j4:fnOf Tryz.prog o_j2=some (o_j3,[.t 8,.t 9],17,false):=fno (by kernel_rfl)

abbrev o_j5:FuncId:=178
noncomputable def o_j6:C:=codeOf Tryz.prog o_j5
theorem o_j7:fnOf Tryz.prog o_j5=some (o_j6,[.cell 4 true 3,.t 5],11,false):=fno (by kernel_rfl)

abbrev o_j8:FuncId:=179
noncomputable def o_j9:C:=codeOf Tryz.prog o_j8
theorem o_ja:fnOf Tryz.prog o_j8=some (o_j9,[.t 2],5,false):=fno (by kernel_rfl)

abbrev o_jb:FuncId:=181
noncomputable def o_jc:C:=codeOf Tryz.prog o_jb
theorem o_jd:fnOf Tryz.prog o_jb=some (o_jc,[.t 6,.t 7],14,false):=fno (by kernel_rfl)

abbrev o_je:FuncId:=183
noncomputable def o_jf:C:=codeOf Tryz.prog o_je
theorem o_jg:fnOf Tryz.prog o_je=some (o_jf,[.t 8,.t 9],42,false):=fno (by kernel_rfl)

abbrev o_jh:FuncId:=184
noncomputable def o_ji:C:=codeOf Tryz.prog o_jh
theorem o_jj:fnOf Tryz.prog o_jh=some (o_ji,[.cell 4 true 3,.t 5],27,false):=fno (by kernel_rfl)

abbrev o_jk:FuncId:=185
noncomputable def o_jl:C:=codeOf Tryz.prog o_jk
theorem o_jm:fnOf Tryz.prog o_jk=some (o_jl,[.t 2],9,false):=fno (by kernel_rfl)

abbrev o_jn:FuncId:=186
noncomputable def o_jo:C:=codeOf Tryz.prog o_jn
theorem o_jp:fnOf Tryz.prog o_jn=some (o_jo,[.t 6,.t 7],29,false):=fno (by kernel_rfl)

abbrev o_jq:FuncId:=187
noncomputable def o_jr:C:=codeOf Tryz.prog o_jq
theorem o_js:fnOf Tryz.prog o_jq=some (o_jr,[.t 4],23,false):=fno (by kernel_rfl)

abbrev o_jt:FuncId:=188
noncomputable def o_ju:C:=codeOf Tryz.prog o_jt
theorem o_jv:fnOf Tryz.prog o_jt=some (o_ju,[.t 4,.t 5],14,false):=fno (by kernel_rfl)

abbrev o_jw:FuncId:=189
noncomputable def o_jx:C:=codeOf Tryz.prog o_jw
theorem o_jy:fnOf Tryz.prog o_jw=some (o_jx,[.t 8,.t 9],17,false):=fno (by kernel_rfl)

abbrev o_jz:FuncId:=190
noncomputable def o_k0:C:=codeOf Tryz.prog o_jz
theorem o_k1:fnOf Tryz.prog o_jz=some (o_k0,[.cell 4 true 3,.t 5],11,false):=fno (by kernel_rfl)

abbrev o_k2:FuncId:=191
noncomputable def o_k3:C:=codeOf Tryz.prog o_k2
theorem o_k4:fnOf Tryz.prog o_k2=some (o_k3,[.t 2],5,false):=fno (by kernel_rfl)

abbrev o_k5:FuncId:=193
noncomputable def o_k6:C:=codeOf Tryz.prog o_k5
theorem o_k7:fnOf Tryz.prog o_k5=some (o_k6,[.t 6,.t 7],14,false):=fno (by kernel_rfl)

abbrev o_k8:FuncId:=195
noncomputable def o_k9:C:=codeOf Tryz.prog o_k8
theorem o_ka:fnOf Tryz.prog o_k8=some (o_k9,[.t 8,.t 9],40,false):=fno (by kernel_rfl)

abbrev o_kb:FuncId:=196
noncomputable def o_kc:C:=codeOf Tryz.prog o_kb
theorem o_kd:fnOf Tryz.prog o_kb=some (o_kc,[.cell 4 true 3,.t 5],23,false):=fno (by kernel_rfl)

abbrev o_ke:FuncId:=197
noncomputable def o_kf:C:=codeOf Tryz.prog o_ke
theorem o_kg:fnOf Tryz.prog o_ke=some (o_kf,[.t 2],9,false):=fno (by kernel_rfl)

abbrev o_kh:FuncId:=198
noncomputable def o_ki:C:=codeOf Tryz.prog o_kh
theorem o_kj:fnOf Tryz.prog o_kh=some (o_ki,[.t 6,.t 7],25,false):=fno (by kernel_rfl)

abbrev o_kk:FuncId:=199
def o_kl:C:=(.seq (.reg false [oo_ 3 (.box 3 (.t 1)) [],oo_ 4 (.new 220 [(.int .i64 0),(.int .i64 0),.nilsl,.nilsl]) [],oo_ 5 (.mv (.d (.int .i64 0))) []]) (.seq (.block 0 (.seq (.reg false [om_ 10 0 [],oo_ 11 (.call 197 [(.t 10)])
 [0],oo_ 12 (.un .not (.t 11)) [1],om_ 9 12 [2,1]]) (.cond (.t 9) (.seq (.reg false [oo_ 13 (.build [(.int .i64 0),(.int .i64 0),.nilsl,.nilsl] []) [],on_ (.store 4 (.t 4) (.t 13)) [0,0],oo_ 5 (.mv (.d (.int .i64 10)))
 [1,0,1]]) .ret) (.seq (.reg false [oo_ 15 (.load false 1 (.t 3)) [],oo_ 16 (.bin .lss (.t 15) (.d (.int .i64 0))) [0],om_ 17 16 [1],og_ 18 (.load false 1 (.t 3)) 17 false [2],og_ 19 (.bin .gtr (.t 18) (.d (.int .i64
 1023))) 17 false [3,2],oo_ 20 (.pick (.t 17) (.d (.bool true)) (.t 19)) [2,4],om_ 14 20 [5,2]]) (.cond (.t 14) (.seq (.reg false [oo_ 21 (.build [(.int .i64 0),(.int .i64 0),.nilsl,.nilsl] []) [],on_ (.store 4 (.t 4)
 (.t 21)) [0,0],oo_ 5 (.mv (.d (.int .i64 2))) [1,0,1]]) .ret) .skip))))) (.seq (.reg false [oo_ 6 (.new 220 [(.int .i64 0),(.int .i64 0),.nilsl,.nilsl]) []]) (.seq (.seq (.reg false [om_ 22 0 [],oo_ 23 (.call 200 [(.t
 22)]) [0]]) (.block 1 .bad)) (.seq (.reg false [oo_ 30 (.load true 4 (.t 6)) [],on_ (.store 4 (.t 4) (.t 30)) [0,0],oo_ 5 (.mv (.d (.int .i64 0))) [1,0,1]]) .ret)))))
theorem o_km:fnOf Tryz.prog o_kk=some (o_kl,[.cell 4 true 4,.t 5],31,false):=by kernel_rfl

abbrev n_yu_walk:FuncId:=200
noncomputable def c_yu_walk:C:=codeOf Tryz.prog n_yu_walk
theorem r_yu_walk:fnOf Tryz.prog n_yu_walk=some (c_yu_walk,[.t 2],4,false):=fno (by kernel_rfl)

abbrev o_kn:FuncId:=201
def o_ko:C:=(.seq (.reg false [oo_ 5 (.load false 1 (.t 1)) [],oo_ 6 (.bin .mul (.d (.int .i64 2)) (.t 5)) [0],oo_ 7 (.bin .shl (.d (.int .u64 1)) (.t 6)) [1],oo_ 8 (.bsl 136 1 1 [(.int .u64 0)] [(0,1,(.t 7))]) [2],oo_ 9 (.call 80
 [(.t 8)]) [3],oo_ 10 (.build [(.int .i64 0),(.int .i64 0),.nilsl,.nilsl] [(3,1,(.t 9))]) [4],oo_ 3 (.new 220 [(.int .i64 0),(.int .i64 0),.nilsl,.nilsl]) [],on_ (.store 4 (.t 3) (.t 10)) [6,5,4,0,1,2,3,4,5,6]]) (.seq
 (.reg false [oo_ 4 (.mv (.d (.int .i64 0))) []]) (.block 0 (.loop (.seq (.seq (.reg false [om_ 11 4 [],oo_ 12 (.bin .leq (.t 11) (.d (.int .i64 1023))) [0]]) (.cond (.t 12) .skip (.exit 0))) (.seq (.block 1 (.seq (.seq
 (.reg false [om_ 15 0 [],om_ 16 4 [],oo_ 17 (.load true 4 (.t 3)) [],oo_ 18 (.callv (.t 15) [(.t 16),(.t 17)]) [0,1,2],oo_ 19 (.un .not (.t 18)) [3]]) (.cond (.t 19) .ret .skip)) (.reg false [oo_ 20 (.load true 4 (.t
 3)) [],oo_ 21 (.load false 1 (.t 1)) [],oo_ 22 (.call 202 [(.t 20),(.t 21)]) [0,1],on_ (.store 4 (.t 3) (.t 22)) [2,2,0,1,2]]))) (.reg false [om_ 13 4 [],oo_ 14 (.bin .add (.t 13) (.d (.int .i64 1))) [0],om_ 4 14
 [1,0,1]])))))))
abbrev o_kp:FuncId:=202
noncomputable def o_kq:C:=codeOf Tryz.prog o_kp
theorem o_kr:fnOf Tryz.prog o_kp=some (o_kq,[.cell 4 true 4],41,false):=fno (by kernel_rfl)

abbrev o_ks:FuncId:=203
noncomputable def o_kt:C:=codeOf Tryz.prog o_ks
theorem o_ku:fnOf Tryz.prog o_ks=some (o_kt,[.cell 4 true 1],28,false):=fno (by kernel_rfl)

abbrev o_kv:FuncId:=204
noncomputable def o_kw:C:=codeOf Tryz.prog o_kv
theorem o_kx:fnOf Tryz.prog o_kv=some (o_kw,[.t 4],12,false):=fno (by kernel_rfl)

abbrev o_ky:FuncId:=90
theorem o_kz:Tryz.prog.funcs[o_ky]?=some Tryz.f90:=Tryz.func90
abbrev o_l0:FuncId:=113
theorem o_l1:Tryz.prog.funcs[o_l0]?=some Tryz.f113:=Tryz.func113
end
section
open Go.RowKit
def W (ws:List Nat):D:=.sl ws.length (ws.map fun x:Nat=>.int .u64 x)

def wordsF:Nat→Nat→List Nat
 | 0,_=>[]
 | f+1,n=>if n=0 then [] else (n%18446744073709551616)::wordsF f (n/18446744073709551616)
def words (n:Nat):List Nat:=wordsF n n

theorem o_l2:∀(f n:Nat),n≤f→wval (wordsF f n)=n∧small (wordsF f n)∧top1 (wordsF f n)
 | 0,n,h=>by
  obtain rfl:n=0:=by omega
  exact ⟨rfl,by simp [small,wordsF],by intro k hk;simp [wordsF] at hk⟩
 | f+1,n,h=>by
  by_cases h0:n=0
  ·subst h0
   simp only [wordsF,if_true]
   exact ⟨rfl,by simp [small],by intro k hk;simp at hk⟩
  ·obtain ⟨h1,h2,h3⟩:=o_l2 f (n/18446744073709551616) (by omega)
   simp only [wordsF,if_neg h0]
   refine ⟨by simp only [wval,h1];omega,fun x hx=>?_,fun k hk=>?_⟩
   ·rcases List.mem_cons.1 hx with rfl | hx
    ·omega
    ·exact h2 x hx
   ·cases hl:wordsF f (n/18446744073709551616) with
    | nil =>
     rw [hl] at h1 hk
     simp [wval] at h1 hk
     subst hk
     simp;omega
    | cons y r =>
     rw [hl] at hk h3
     simp at hk
     subst hk
     have:=h3 r.length rfl
     simpa using this
theorem o_l3 (n:Nat):wval (words n)=n:=(o_l2 n n (Nat.le_refl _)).1
theorem o_l4 (n:Nat):small (words n):=(o_l2 n n (Nat.le_refl _)).2.1
theorem o_l5 (n:Nat):top1 (words n):=(o_l2 n n (Nat.le_refl _)).2.2
theorem o_l6 {ws:List Nat} (h:small ws) (ht:top1 ws):words (wval ws)=ws:=o_6z (o_l4 _) h (o_l5 _) ht (o_l3 _)
theorem o_l7 {n:Nat}:words n=[]↔n=0:=by
 constructor
 ·intro h;have:=o_l3 n;rw [h] at this;exact this.symm
 ·rintro rfl;rfl

def natW (n:Nat):D:=W (words n)
theorem o_l8 {ws:List Nat} (h:small ws) (ht:top1 ws):natW (wval ws)=W ws:=by rw [natW,o_l6 h ht]
def size (n:Nat):Nat:=(words n).length

theorem o_l9 (n:Nat) (l:List D) (hl:l.length=n) (hn:n≤4000000000):Eqn Tryz.prog o_gh [.d (.sl n l)] [] (.d (.sl n l)) []:=by
 refine Eqn.pure o_gj (o_5e _) ?_
 refine cc (c':=?z0) ?_ ?_
 case refine_1=>cbv<;>exact rfl
 rcases Nat.eq_zero_or_pos n with rfl | h0
 ·have:l=[]:=List.eq_nil_of_length_eq_zero hl
  subst this
  refine AW.empty 0 rfl ?_ ?_
  ·simp
   refine G0 ?_;try with_reducible exact tt
   refine AW.cond rfl (fun h=>?_) (fun h=>?_)
   ·refine G0 ?_;try with_reducible exact tt
    exact Sub1.nil
   ·simp at h
  ·simp
   refine G0 ?_;try with_reducible exact tt
   refine AW.cond rfl (fun h=>?_) (fun h=>?_)
   ·simp at h
   ·refine G0 ?_;try with_reducible exact tt
    exact Sub1.sl0
 ·refine G1 h0 ?_;try with_reducible exact tt
  refine AW.cond rfl (fun h=>?_) (fun h=>?_)
  ·simp at h
  ·refine G0 ?_;try with_reducible exact tt
   have h1:¬n=0:=by omega
   simp [h1,hl]
   refine need.of (by omega) ?_
   refine AW.freeze 0 1 ⟨136,l.map .d⟩ l (by simp) rfl ?_
   simp
   refine G0 ?_;try with_reducible exact tt
   have:l.take n=l:=List.take_of_length_le (by omega)
   simp [this]

theorem o_la {ws:List Nat} {k:Nat} (h:k<ws.length):ws[k]=ws.getD k 0:=by simp [List.getD,h]

theorem o_lb (ws:List Nat) (hs:small ws) (hn:ws.length≤4000000000):Eqn Tryz.prog o_ez [.d (W ws)] [] (.d (.agg [natW (wval ws)])) []:=by
 refine Eqn.pure o_f1 (o_5e _) ?_
 refine cc (c':=?z1) ?_ ?_
 case refine_1=>cbv<;>exact rfl
 try simp only [W]
 refine G0 ?_;try with_reducible exact tt
 refine AW.loopT (α:=Nat) 1 (fun m=>[(3,.d (.int .i64 (m:Int)))]) (fun _=>[]) (fun m=>m≤ws.length∧trimN ws m=trimN ws ws.length) (fun m=>m) ws.length ?_ ?_ ⟨Nat.le_refl _,rfl⟩ ?_ ?_ ?_
 ·simp
 ·simp
 ·simp
 ·simp
 rintro m ⟨hm,ht⟩
 simp
 have fin:∀k,k=trimN ws ws.length→W (ws.take k)=natW (wval ws):=by
  rintro k rfl
  have:=o_l8 (hs.take (trimN ws ws.length)) (o_6x ws _ (Nat.le_refl _))
  rw [←this,o_6w _ _ (Nat.le_refl _),List.take_length]
 cases m with
 | zero =>
  refine G0 ?_;try with_reducible exact tt
  refine AW.cond rfl (fun h=>?_) (fun h=>?_)
  ·simp at h
  refine G0 ?_;try with_reducible exact tt
  refine Sub1.of ?_
  rw [←fin 0 ht]
  simp [W]
 | succ m =>
  have hm':m<ws.length:=hm
  have hp:(0:Int)<(m:Int)+1:=by omega
  have e:(m:Int)+1-1=m:=by omega
  have ew:IntKind.i64.wrap (m:Int)=m:=w64 (by omega) (by omega)
  refine G1 (fs hp (fs e (fs ew hm'))) ?_;try with_reducible exact tt
  refine AW.cond rfl (fun h=>?_) (fun h=>?_)
  ·simp at h
   refine G1 (fs hp (fs e ew)) ?_;try with_reducible exact tt
   refine ⟨m,⟨by omega,?_⟩,?_⟩
   ·rw [←ht,trimN,if_pos]
    rw [←o_la hm'];omega
   ·simp
  ·simp at h
   refine G0 ?_;try with_reducible exact tt
   have hk:m+1=trimN ws ws.length:=by
    rw [←ht,trimN,if_neg]
    rw [←o_la hm'];omega
   refine G0 ?_;try with_reducible exact tt
   refine Sub1.of ?_
   rw [←fin _ hk]
   simp [W]
   omega

theorem o_lc (ws:List Nat) (hs:small ws) (hn:ws.length≤4000000000):Eqn Tryz.prog o_e5 [.d (W ws)] [] (.d (.agg [natW (wval ws)])) []:=by
 refine Eqn.pure o_e7 (o_5e _) ?_
 refine cc (c':=?z2) ?_ ?_
 case refine_1=>cbv<;>exact rfl
 try simp only [W]
 refine G0 ?_;try with_reducible exact tt
 refine CallS.pu (o_l9 _ (ws.map fun x:Nat=>.int .u64 x) (by simp) hn) (R0 ?_);try with_reducible exact tt
 refine CallS.pu (o_lb ws hs hn) (R0 ?_);try with_reducible exact tt

theorem o_ld (n:Nat):Eqn Tryz.prog o_eb [.d (.agg [natW n])] [] (.d (.bool (n==0))) []:=by
 refine Eqn.pure o_ed (o_5e _) ?_
 refine cc (c':=?z3) ?_ ?_
 case refine_1=>cbv<;>exact rfl
 try simp only [natW,W]
 refine G0 ?_;try with_reducible exact tt
 refine Sub1.bool ?_
 rw [Bool.eq_iff_iff]
 simp [o_l7]

theorem o_le {m n:Nat} (h:size m<size n):m<n:=by
 have:=o_7l (o_l4 m) (o_l5 n) h
 rwa [o_l3,o_l3] at this

theorem o_lf (m n:Nat) (hm:size m≤1000000) (hn:size n≤1000000):Eqn Tryz.prog o_eh [.d (.agg [natW m]),.d (.agg [natW n])] [] (.d (.int .i64 (cmpZ m n))) []:=by
 refine Eqn.pure o_ej (o_5e _) ?_
 unfold size at hm hn
 have sa:=o_l4 m
 have sb:=o_l4 n
 refine cc (c':=?z4) ?_ ?_
 case refine_1=>cbv<;>exact rfl
 try simp only [natW,W]
 have hz:cmpZ m n=if (words m).length<(words n).length then -1 else if (words n).length<(words m).length then 1 else cmpN (words m) (words n) (words m).length:=by
  split
  ·rename_i h;rw [cmpZ,if_pos (o_le h)]
  ·split
   ·rename_i h;have:=o_le h;rw [cmpZ,if_neg (by omega),if_pos this]
   ·have:=o_7n sa sb (words m).length
    rw [List.take_length,show (words m).length=(words n).length by omega,List.take_length,o_l3,o_l3] at this
    rw [show (words m).length=(words n).length by omega,this]
    rfl
 rw [hz]
 clear hz
 generalize words m=xs at *
 generalize words n=ys at *
 by_cases hl:xs.length=ys.length
 ·refine G1 hl ?_;try with_reducible exact tt
  refine AW.cond rfl (fun h=>?_) (fun h=>?_)
  ·simp [w64] at h
  refine G1 hl ?_;try with_reducible exact tt
  refine AW.loopT (α:=Nat) 2 (fun m=>[(6,.d (.int .i64 ((m:Int)-1)))]) (fun _=>[]) (fun m=>m≤ys.length∧cmpN xs ys m=cmpN xs ys ys.length) (fun m=>m) ys.length ?_ ?_ ⟨Nat.le_refl _,rfl⟩ ?_ ?_ ?_
  ·simp
  ·simp
  ·simp [hl]
  ·simp
  rintro m ⟨hm',hc⟩
  simp
  cases m with
  | zero =>
   refine G0 ?_;try with_reducible exact tt
   refine AW.cond rfl (fun h=>?_) (fun h=>?_)
   ·simp at h
   refine G0 ?_;try with_reducible exact tt
   refine Sub1.int ?_
   rw [←hc];rfl
  | succ m =>
   have h1:m<xs.length:=by omega
   have h2:m<ys.length:=hm'
   have e:(m:Int)+1-1=m:=by omega
   have ew:IntKind.i64.wrap ((m:Int)-1)=(m:Int)-1:=w64 (by omega) (by omega)
   rw [cmpN,←o_la h1,←o_la h2] at hc
   refine G1 (fs e (fs h1 h2)) ?_;try with_reducible exact tt
   refine AW.cond rfl (fun h=>?_) (fun h=>?_)
   ·refine G1 (fs e (fs h1 h2)) ?_;try with_reducible exact tt
    refine AW.cond rfl (fun h=>?_) (fun h=>?_)
    ·simp at h
     refine G0 ?_;try with_reducible exact tt
     refine Sub1.int ?_
     rw [if_pos h] at hc
     exact hc
    ·simp at h
     rw [if_neg (by omega)] at hc
     refine G0 ?_;try with_reducible exact tt
     refine AW.cond rfl (fun h=>?_) (fun h=>?_)
     ·simp at h
      refine G0 ?_;try with_reducible exact tt
      refine Sub1.int ?_
      rw [if_pos h] at hc
      exact hc
     ·simp at h
      rw [if_neg (by omega)] at hc
      refine G1 ew ?_;try with_reducible exact tt
      exact ⟨m,⟨by omega,hc⟩,by simp⟩
   ·simp at h
 ·refine G0 ?_;try with_reducible exact tt
  refine AW.cond rfl (fun h=>?_) (fun h=>?_)
  ·refine G0 ?_;try with_reducible exact tt
   refine Sub1.int ?_
   split<;>omega
  ·simp at h
   omega
end
section
open Go.RowKit
abbrev U (ws:List Nat):List V:=ws.map fun x:Nat=>V.d (.int .u64 x)

theorem o_lg (x y c s d:Nat) (hx:x<18446744073709551616) (hy:y<18446744073709551616) (hc:c≤1) (hs:s<18446744073709551616) (e:x+y+c=s+18446744073709551616*d):Eqn Tryz.prog o_ky [.d (.int .u64 x),.d (.int .u64 y),.d (.int .u64 c)] [] (.tup [.d (.int .u64 s),.d (.int .u64 d)]) []:=by
 refine Eqn.extern o_kz (by kernel_rfl) (by kernel_rfl) (by kernel_rfl) (e:=add64Entry) (by kernel_rfl) rfl fun m vs h=>?_
 obtain ⟨v1,r1,rfl,h1,h⟩:=V.reps_cons'.1 h
 obtain ⟨v2,r2,rfl,h2,h⟩:=V.reps_cons'.1 h
 obtain ⟨v3,r3,rfl,h3,h⟩:=V.reps_cons'.1 h
 simp at h;subst h
 rw [V.rep_int] at h1 h2 h3
 subst h1 h2 h3
 have:=run_add64 (P:=Tryz.prog) x y c (by omega) (by omega) (by omega) (by omega) m.w
 refine ⟨_,this,?_⟩
 unfold V.rep
 refine ⟨[.int .u64 (((x:Int)+y+c)%18446744073709551616),.int .u64 (((x:Int)+y+c)/18446744073709551616)],rfl,?_⟩
 simp only [V.reps_cons,V.rep_int,V.reps_nil,and_true]
 constructor<;>congr 1<;>omega

theorem o_lh (x y c s d:Nat) (hx:x<18446744073709551616) (hy:y<18446744073709551616) (hc:c≤1) (hs:s<18446744073709551616) (e:x+18446744073709551616*d=s+y+c):Eqn Tryz.prog o_l0 [.d (.int .u64 x),.d (.int .u64 y),.d (.int .u64 c)] [] (.tup [.d (.int .u64 s),.d (.int .u64 d)]) []:=by
 refine Eqn.extern o_l1 (by kernel_rfl) (by kernel_rfl) (by kernel_rfl) (e:=sub64Entry) (by kernel_rfl) rfl fun m vs h=>?_
 obtain ⟨v1,r1,rfl,h1,h⟩:=V.reps_cons'.1 h
 obtain ⟨v2,r2,rfl,h2,h⟩:=V.reps_cons'.1 h
 obtain ⟨v3,r3,rfl,h3,h⟩:=V.reps_cons'.1 h
 simp at h;subst h
 rw [V.rep_int] at h1 h2 h3
 subst h1 h2 h3
 have:=run_sub64 (P:=Tryz.prog) x y c hc m.w
 refine ⟨_,this,?_⟩
 unfold V.rep
 refine ⟨[.int .u64 s,.int .u64 d],?_,by simp only [V.reps_cons,V.rep_int,V.reps_nil,and_true]⟩
 congr 4
 ·omega
 ·congr 2
  split<;>omega

theorem o_li (a b:List Nat) (i:Nat):a.getD i 0+b.getD i 0+carryW a b i=addW a b i+18446744073709551616*carryW a b (i+1):=by
 rw [addW,carryW];exact (Nat.mod_add_div _ _).symm
theorem o_lj {ws:List Nat} {k:Nat} (h:¬k<ws.length):ws.getD k 0=0:=by simp [List.getD,show ws.length≤k by omega]
theorem o_lk (l:List D):(V.tup (l.map .d)).plain:=by
 have h1:V.lowl 0 (l.map V.d)=true:=by induction l<;>simp_all [V.lowl,V.low]
 have h2:∀θ,V.rens θ (l.map V.d)=l.map V.d:=fun θ=>by induction l<;>simp_all [V.rens,V.ren]
 exact ⟨by simp [V.low,h1],fun θ=>by simp [V.ren,h2]⟩

def rowV (f:Nat→D) (n i:Nat):List V:=(List.range i).map (fun k=>V.d (f k))++List.replicate (n-i) (.d (.int .u64 0))
@[simp] theorem o_ll (f:Nat→D) (n i:Nat):(rowV f n i).length=i+(n-i):=by simp [rowV]
theorem out0 (n:Nat) (f:Nat→D):List.replicate n (V.d (.int .u64 0))=rowV f n 0:=by simp [rowV]
theorem o_lm {f:Nat→D} {n i:Nat} (h:i<n):(rowV f n i).set i (.d (f i))=rowV f n (i+1):=by
 obtain ⟨k,rfl⟩:∃k,n=i+k+1:=⟨n-i-1,by omega⟩
 rw [rowV,rowV,List.set_append_right _ _ (by simp),List.range_succ,List.map_append,List.append_assoc]
 congr 1
 simp only [List.length_map,List.length_range,Nat.sub_self]
 rw [show i+k+1-i=k+1 by omega,show i+k+1-(i+1)=k by omega]
 simp [List.replicate_succ]
@[simp] theorem o_ln (n:Nat) (f:Nat→D) (k i:Nat):V.lowl n (rowV f k i)=true:=by
 have h1:∀l:List D,V.lowl n (l.map V.d)=true:=fun l=>by induction l<;>simp_all [V.lowl,V.low]
 have:rowV f k i=((List.range i).map f++List.replicate (k-i) (D.int .u64 0)).map .d:=by simp [rowV]
 rw [this,h1]
@[simp] theorem o_lo (l:List V):Subs l l↔True:=iff_true_intro (Subs.refl l)
theorem o_lp {f:Nat→D} {n:Nat} {z:D}:(rowV f (n+1) n).set n (.d z)=((List.range n).map f++[z]).map .d:=by
 rw [rowV,List.set_append_right _ _ (by simp)]
 simp
theorem o_lq {f:Nat→D} {n:Nat}:rowV f n n=((List.range n).map f).map .d:=by simp [rowV]

theorem o_lr (a b:D):(V.tup [.d a,.d b]).plain:=o_lk [a,b]
theorem o_ls (a b c:D):(V.tup [.d a,.d b,.d c]).plain:=o_lk [a,b,c]

theorem o_lt (m n:Nat) (hm:size m≤1000000) (hn:size n≤1000000):Eqn Tryz.prog o_et [.d (.agg [natW m]),.d (.agg [natW n])] [] (.d (.agg [natW (m+n)])) []:=by
 refine Eqn.pure o_ev (o_5e _) ?_
 -- the longer one,the other one
 obtain ⟨A,B,hAB,hsA,hsB,hle,hsum,hca,hcb⟩:∃A B:List Nat,(A,B)=(if (words m).length<(words n).length then (words n,words m) else (words m,words n))∧small A∧small B∧B.length≤A.length∧wval A+wval B=m+n∧A.length≤1000000∧B.length≤1000000:=by
  unfold size at hm hn
  by_cases h:(words m).length<(words n).length
  ·exact ⟨words n,words m,by rw [if_pos h],o_l4 _,o_l4 _,by omega,by rw [o_l3,o_l3];omega,by omega,by omega⟩
  ·exact ⟨words m,words n,by rw [if_neg h],o_l4 _,o_l4 _,by omega,by rw [o_l3,o_l3],by omega,by omega⟩
 refine cc (c':=?z5) ?_ ?_
 case refine_1=>cbv<;>exact rfl
 try simp only [natW,W]
 generalize words m=xs at *
 generalize words n=ys at *
 unfold size at hm hn
 refine AW.seq (AW.reg mix ?_)
 (simp -implicitDefEqProofs;try simp (disch:=omega) only [w64,wu64])
 refine AW.cut 3 [] [(0,⟨47,[.d (W A)]⟩),(1,⟨47,[.d (W B)]⟩)] ?_ ?_ ?_ ?_
 ·simp
 ·simp
 ·refine G0 ?_;try with_reducible exact tt
  refine AW.cond rfl (fun h=>?_) (fun h=>?_)
  ·simp at h
   rw [if_pos h] at hAB
   cases hAB
   refine G0 ?_;try with_reducible exact tt
   simp [W]
  ·simp at h
   rw [if_neg (by omega)] at hAB
   cases hAB
   refine G0 ?_;try with_reducible exact tt
   simp [W]
 clear hAB hm hn
 simp [W]
 refine G0 ?_;try with_reducible exact tt

 rw [out0 _ (fun k=>.int .u64 (addW A B k:Nat))]
 refine G0 ?_;try with_reducible exact tt
 refine AW.loopT (α:=Nat) 4 (fun i=>[(27,.d (.int .i64 (i:Int))),(6,.d (.int .u64 (carryW A B i:Nat)))]) (fun i=>[(3,⟨136,rowV (fun k=>.int .u64 (addW A B k:Nat)) (A.length+1) i⟩)]) (fun i=>i≤A.length) (fun i=>A.length-i) 0 ?_ ?_ (Nat.zero_le _) ?_ ?_ ?_
 ·simp
 ·simp
 ·simp [carryW]
 ·simp
 rintro i hi
 simp
 by_cases h:i=A.length
 ·subst h
  refine G0 ?_;try with_reducible exact tt
  refine AW.cond rfl (fun h=>?_) (fun h=>?_)
  ·simp at h
  refine AW.exit ?_
  (try (simp -implicitDefEqProofs;try simp (disch:=omega) only [w64,wu64]))
  repeat (first | refine AW.seq ?_ | refine AW.block ?_)
  refine AW.reg mix ?_
  (simp -implicitDefEqProofs;try simp (disch:=omega) only [w64,wu64])
  try refine need.of (by first | omega | kernel_rfl) ?_
  obtain ⟨ws,hl,hr,hv,hs⟩:∃ws:List Nat,ws.length=A.length+1∧(rowV (fun k=>.int .u64 (addW A B k:Nat)) (A.length+1) A.length).set A.length (.d (.int .u64 (carryW A B A.length:Nat)))=U ws∧wval ws=m+n∧small ws:=by
   refine ⟨(List.range A.length).map (addW A B)++[carryW A B A.length],by simp,by rw [o_lp];simp [U],?_,?_⟩
   ·rw [o_6s,←hsum]
    have:=o_7f A B A.length
    rw [List.take_length,List.take_of_length_le hle] at this
    simp [wval]
    rw [←this]
   ·intro x hx
    rcases List.mem_append.1 hx with hx | hx
    ·obtain ⟨k,-,rfl⟩:=List.mem_map.1 hx;exact o_7j _ _ _
    ·simp at hx;subst hx;have:=o_7e hsA hsB A.length;omega
  rw [hr]
  refine AW.freeze 3 1 ⟨136,_⟩ (ws.map fun x:Nat=>.int .u64 x) (by rfl) (by simp) ?_
  simp [←hl,List.take_of_length_le]
  refine G0 ?_;try with_reducible exact tt
  refine CallS.pu (o_lb ws hs (by omega)) (R0 ?_);try with_reducible exact tt
  refine Sub1.of ?_
  rw [hv];rfl
 ·have hi':i<A.length:=by omega
  have hp:(i:Int)<A.length:=by omega
  have hc:=o_7e hsA hsB i
  have hset:=o_lm (f:=fun k=>.int .u64 (addW A B k:Nat)) (n:=A.length+1) (i:=i) (by omega)
  have ew:IntKind.i64.wrap ((i:Int)+1)=(i:Int)+1:=w64 (by omega) (by omega)
  refine G1 (fs hi' hp) ?_;try with_reducible exact tt
  refine AW.cond rfl (fun h=>?_) (fun h=>?_)
  ·clear h
   by_cases hb:i<B.length
   ·have e:A[i]+B[i]+carryW A B i=addW A B i+18446744073709551616*carryW A B (i+1):=by
     rw [←o_li,o_la hi',o_la hb]
    refine G1 (fs hi' (fs hp hb)) ?_;try with_reducible exact tt
    refine AW.cond rfl (fun h=>?_) (fun h=>?_)
    ·clear h
     refine G1 (fs hi' (fs hp hb)) ?_;try with_reducible exact tt
     refine CallS.pu (o_lg _ _ _ (addW A B i) (carryW A B (i+1)) (hsA _ (List.getElem_mem _)) (hsB _ (List.getElem_mem _)) hc (o_7j _ _ _) e) (R1 (fs hset ew) ?_);try with_reducible exact tt
     exact ⟨i+1,by omega,by omega,by simp [wk,ew],by simp [wkH]⟩
    ·simp [hb] at h
   ·have e:A[i]+0+carryW A B i=addW A B i+18446744073709551616*carryW A B (i+1):=by
     rw [←o_li,o_la hi',o_lj hb]
    refine G1 (fs hi' (fs hp hb)) ?_;try with_reducible exact tt
    refine AW.cond rfl (fun h=>?_) (fun h=>?_)
    ·simp [hb] at h
    ·clear h
     refine G1 (fs hi' (fs hp hb)) ?_;try with_reducible exact tt
     refine CallS.pu (o_lg _ 0 _ (addW A B i) (carryW A B (i+1)) (hsA _ (List.getElem_mem _)) (by omega) hc (o_7j _ _ _) e) (R1 (fs hset ew) ?_);try with_reducible exact tt
     exact ⟨i+1,by omega,by omega,by simp [wk,ew],by simp [wkH]⟩
  ·simp at h
end
section
open Go.RowKit
theorem o_lu {a b:List Nat} (ha:small a) (hb:small b) (i:Nat):a.getD i 0+18446744073709551616*borrowW a b (i+1)=subW a b i+b.getD i 0+borrowW a b i:=by
 have h1:=ha.getD i
 have h2:=hb.getD i
 have h3:=o_7g a b i
 simp only [subW,borrowW]
 split<;>omega
theorem o_lv {a b:List Nat} (ha:small a) (hb:small b) (hl:b.length≤a.length) (h:wval b≤wval a):wval ((List.range a.length).map (subW a b))=wval a-wval b:=by
 have h1:=o_7h ha hb a.length
 rw [List.take_length,List.take_of_length_le hl] at h1
 have h2:=o_7g a b a.length
 have h3:=o_6u (o_7i (o_7k a b) a.length)
 rw [List.length_map,List.length_range] at h3
 have:borrowW a b a.length=0∨borrowW a b a.length=1:=by omega
 rcases this with e | e
 ·rw [e] at h1;omega
 ·rw [e] at h1;omega
theorem o_lw {m n:Nat} (h:m≤n):size m≤size n:=by
 apply Nat.le_of_not_lt
 intro hlt
 have:=o_le hlt
 omega

theorem o_lx (m n:Nat) (hm:size m≤1000000) (hle:n≤m):Eqn Tryz.prog o_eq [.d (.agg [natW m]),.d (.agg [natW n])] [] (.tup [.d (.agg [natW (m-n)]),.d (.int .i64 0)]) []:=by
 refine Eqn.pure o_es (o_lr _ _) ?_
 have hs:=o_lw hle
 refine cc (c':=?z6) ?_ ?_
 case refine_1=>cbv<;>exact rfl
 refine G0 ?_;try with_reducible exact tt
 refine CallS.pu (o_lf m n hm (by omega)) (R0 ?_);try with_reducible exact tt
 have hc:¬cmpZ m n<0:=by unfold cmpZ;split<;>(try split)<;>omega
 refine AW.cond rfl (fun h=>?_) (fun h=>?_)
 ·simp [hc] at h
 clear h
 refine G0 ?_;try with_reducible exact tt
 unfold size at hm hs
 obtain ⟨A,hA⟩:∃A,A=words m:=⟨_,rfl⟩
 obtain ⟨B,hB⟩:∃B,B=words n:=⟨_,rfl⟩
 have hsA:small A:=hA▸o_l4 m
 have hsB:small B:=hB▸o_l4 n
 have hvA:wval A=m:=by rw [hA,o_l3]
 have hvB:wval B=n:=by rw [hB,o_l3]
 rw [show natW m = .sl A.length (A.map fun x:Nat=>.int .u64 x) by rw [hA];rfl,show natW n = .sl B.length (B.map fun x:Nat=>.int .u64 x) by rw [hB];rfl]
 rw [←hA,←hB] at hs
 rw [←hA] at hm
 clear hA hB
 refine G0 ?_;try with_reducible exact tt
 rw [out0 _ (fun k=>.int .u64 (subW A B k:Nat))]
 refine AW.loopT (α:=Nat) 4 (fun i=>[(23,.d (.int .i64 (i:Int))),(7,.d (.int .u64 (borrowW A B i:Nat)))]) (fun i=>[(3,⟨136,rowV (fun k=>.int .u64 (subW A B k:Nat)) A.length i⟩)]) (fun i=>i≤A.length) (fun i=>A.length-i) 0 ?_ ?_ (Nat.zero_le _) ?_ ?_ ?_
 ·simp
 ·simp
 ·simp [borrowW]
 ·simp
 rintro i hi
 simp
 by_cases h:i=A.length
 ·subst h
  refine G0 ?_;try with_reducible exact tt
  refine AW.cond rfl (fun h=>?_) (fun h=>?_)
  ·simp at h
  refine AW.exit ?_
  (try (simp -implicitDefEqProofs;try simp (disch:=omega) only [w64,wu64]))
  obtain ⟨ws,hl,hr,hv,hs'⟩:∃ws:List Nat,ws.length=A.length∧rowV (fun k=>.int .u64 (subW A B k:Nat)) A.length A.length=U ws∧wval ws=m-n∧small ws:=by
   refine ⟨(List.range A.length).map (subW A B),by simp,by rw [o_lq];simp [U],?_,o_7i (o_7k A B) _⟩
   rw [←hvA,←hvB]
   exact o_lv hsA hsB hs (by omega)
  rw [hr]
  refine AW.freeze 3 1 ⟨136,_⟩ (ws.map fun x:Nat=>.int .u64 x) (by rfl) (by simp) ?_
  simp [←hl,List.take_of_length_le]
  refine G0 ?_;try with_reducible exact tt
  refine CallS.pu (o_lb ws hs' (by omega)) (R0 ?_);try with_reducible exact tt
  refine Sub1.of ?_
  rw [hv]
 ·have hi':i<A.length:=by omega
  have hp:(i:Int)<A.length:=by omega
  have hc:=o_7g A B i
  have hset:=o_lm (f:=fun k=>.int .u64 (subW A B k:Nat)) (n:=A.length) (i:=i) (by omega)
  have ew:IntKind.i64.wrap ((i:Int)+1)=(i:Int)+1:=w64 (by omega) (by omega)
  have e:=o_lu hsA hsB i
  refine G1 (fs hi' hp) ?_;try with_reducible exact tt
  refine AW.cond rfl (fun h=>?_) (fun h=>?_)
  ·clear h
   by_cases hb:i<B.length
   ·rw [←o_la hi',←o_la hb] at e
    refine G1 (fs hi' (fs hp hb)) ?_;try with_reducible exact tt
    refine AW.cond rfl (fun h=>?_) (fun h=>?_)
    ·clear h
     refine G1 (fs hi' (fs hp hb)) ?_;try with_reducible exact tt
     refine CallS.pu (o_lh _ _ _ (subW A B i) (borrowW A B (i+1)) (hsA _ (List.getElem_mem _)) (hsB _ (List.getElem_mem _)) hc (o_7k _ _ _) e) (R1 (fs hset ew) ?_);try with_reducible exact tt
     exact ⟨i+1,by omega,by omega,by simp [wk,ew],by simp [wkH]⟩
    ·simp [hb] at h
   ·rw [←o_la hi',o_lj hb] at e
    refine G1 (fs hi' (fs hp hb)) ?_;try with_reducible exact tt
    refine AW.cond rfl (fun h=>?_) (fun h=>?_)
    ·simp [hb] at h
    ·clear h
     refine G1 (fs hi' (fs hp hb)) ?_;try with_reducible exact tt
     refine CallS.pu (o_lh _ 0 _ (subW A B i) (borrowW A B (i+1)) (hsA _ (List.getElem_mem _)) (by omega) hc (o_7k _ _ _) e) (R1 (fs hset ew) ?_);try with_reducible exact tt
     exact ⟨i+1,by omega,by omega,by simp [wk,ew],by simp [wkH]⟩
  ·simp at h
end
section
open Go.RowKit
def rowM (k:Nat) (A:List Nat) (i:Nat):List Nat:=movedL k 0 (A.take i)++List.replicate (A.length-i) 0
theorem o_ly (k:Nat) (A:List Nat) (i:Nat) (h:i≤A.length):(rowM k A i).length=A.length+1:=by
 rw [rowM,List.length_append,o_70,List.length_take,List.length_replicate];omega
theorem o_lz (k:Nat) (A:List Nat):rowM k A 0=List.replicate (A.length+1) 0:=by simp [rowM,movedL,List.replicate_succ]
theorem o_m0 (k:Nat) (A:List Nat):rowM k A A.length=movedL k 0 A:=by simp [rowM]
theorem o_m1 (k:Nat) (A:List Nat) (i:Nat) (h:i<A.length):(rowM k A i).getD i 0=movedC k 0 (A.take i):=by
 have e:i=(movedB k 0 (A.take i)).length:=by rw [o_74,List.length_take];omega
 rw [rowM,o_73,List.append_assoc,List.getD,List.getElem?_append_right (by omega),show i-(movedB k 0 (A.take i)).length=0 by omega]
 rfl
theorem o_m2 (k:Nat) (A:List Nat) (i:Nat) (h:i<A.length):((rowM k A i).set i (A.getD i 0*2^k%18446744073709551616+movedC k 0 (A.take i))).set (i+1) (A.getD i 0*2^k/18446744073709551616)=rowM k A (i+1):=by
 have e:(movedB k 0 (A.take i)).length=i:=by rw [o_74,List.length_take];omega
 obtain ⟨r,hr⟩:∃r,A.length=i+r+1:=⟨A.length-i-1,by omega⟩
 rw [rowM,rowM,o_73,o_73,o_6v _ _ h,o_75,o_76,hr,show i+r+1-i=r+1 by omega,show i+r+1-(i+1)=r by omega,List.replicate_succ]
 simp only [List.append_assoc,List.cons_append,List.nil_append]
 rw [List.set_append_right _ _ (by omega),List.set_append_right _ _ (by omega),e]
 simp

def cellM (k:Nat) (A:List Nat) (i:Nat):List V:=U (rowM k A i)
@[simp] theorem o_m3 (n:Nat) (l:List Nat):V.lowl n (U l)=true:=by induction l<;>simp_all [U,V.lowl,V.low]

set_option maxHeartbeats 1000000 in
theorem o_m4 (A:List Nat) (k:Nat) (hk:k<64) (hs:small A) (hn:A.length≤1000000):Eqn Tryz.prog o_he [.d (W A),.d (.int .i64 k)] [] (.d (W (movedL k 0 A))) []:=by
 refine Eqn.pure o_hg (o_5e _) ?_
 refine cc (c':=?z7) ?_ ?_
 case refine_1=>cbv<;>exact rfl
 try simp only [W]
 refine G0 ?_;try with_reducible exact tt
 rw [show List.replicate (A.length+1) (V.d (.int .u64 0))=cellM k A 0 by rw [cellM,o_lz];simp [U]]
 have hlow:∀i,V.lowl 1 (cellM k A i)=true:=fun i=>o_m3 1 _
 refine AW.loopT (α:=Nat) 1 (fun i=>[(14,.d (.int .i64 (i:Int)))]) (fun i=>[(0,⟨136,cellM k A i⟩)]) (fun i=>i≤A.length) (fun i=>A.length-i) 0 ?_ ?_ (Nat.zero_le _) ?_ ?_ ?_
 ·simp
 ·simp
 ·simp
 ·simp [hlow]
 rintro i hi
 simp
 by_cases h:i=A.length
 ·subst h
  refine G0 ?_;try with_reducible exact tt
  refine AW.cond rfl (fun h=>?_) (fun h=>?_)
  ·simp at h
  refine AW.exit ?_
  (try (simp -implicitDefEqProofs;try simp (disch:=omega) only [w64,wu64]))
  have hl:(movedL k 0 A).length=A.length+1:=o_70 _ _ _
  rw [cellM,o_m0]
  generalize movedL k 0 A=ws at hl
  refine AW.freeze 0 1 ⟨136,_⟩ (ws.map fun x:Nat=>.int .u64 x) (by rfl) (by simp) ?_
  simp [←hl,List.take_of_length_le]
  refine G0 ?_;try with_reducible exact tt
 ·have hi':i<A.length:=by omega
  have hp:(i:Int)<A.length:=by omega
  obtain ⟨c,y,u,hl,hq,hor,hw,hd,hset⟩:∃c z u:Nat,(cellM k A i).length=A.length+1∧(cellM k A i)[i]?=some (.d (.int .u64 c))∧bits BinOp.or IntKind.u64 (c:Int) (IntKind.u64.wrap ((A[i]:Int)*2^k))=(z:Int) ∧
    True∧(A[i]:Int)/2^(64-k)=(u:Int)∧((cellM k A i).set i (.d (.int .u64 z))).set (i+1) (.d (.int .u64 u))=cellM k A (i+1):=by
   have hl:=o_ly k A i hi
   have hc:=o_78 (k:=k) (l:=A.take i) (c:=0) (hs.take i) (Nat.two_pow_pos k)
   have hset:=o_m2 k A i hi'
   rw [←o_la hi'] at hset
   refine ⟨movedC k 0 (A.take i),A[i]*2^k%18446744073709551616+movedC k 0 (A.take i),A[i]*2^k/18446744073709551616,by simp [cellM,U,hl],?_,?_,trivial,?_,?_⟩
   ·have:=o_m1 k A i hi'
    rw [List.getD,List.getElem?_eq_getElem (by omega)] at this
    rw [cellM,U,List.getElem?_map,List.getElem?_eq_getElem (by omega)]
    simp at this
    simp [this]
   ·rw [show IntKind.u64.wrap ((A[i]:Int)*2^k)=((A[i]*2^k%18446744073709551616:Nat):Int) by rw [IntKind.wrap_u64,Int.natCast_emod,Int.natCast_mul,Int.natCast_pow];rfl]
    rw [bits_or_u64_nat _ _ (Nat.lt_of_lt_of_le hc (by rw [show (18446744073709551616:Nat)=2^64 by rfl];exact Nat.pow_le_pow_right (by decide) (by omega))) (Nat.mod_lt _ (by decide)),o_79 hk hc]
   ·rw [o_7a (by omega),Int.natCast_ediv,Int.natCast_pow];rfl
   ·rw [cellM,cellM,←hset,U,U,List.map_set,List.map_set]
  have hn:((64:Int)-k).toNat=64-k:=by omega
  have e1:IntKind.i64.wrap ((i:Int)+1)=(i:Int)+1:=w64 (by omega) (by omega)
  have e2:IntKind.i64.wrap ((64:Int)-k)=(64:Int)-k:=w64 (by omega) (by omega)
  generalize cellM k A i=cm at hl hq hset
  refine G1 (fs hi' hp) ?_;try with_reducible exact tt
  refine AW.cond rfl (fun h=>?_) (fun h=>?_)
  ·clear h
   refine G1 (fs hi' (fs hp (fs hl (fs hq (fs hor (fs e1 (fs e2 (fs hn (fs hd hset))))))))) ?_;try with_reducible exact tt
   exact ⟨i+1,by omega,by omega,by simp [wk],by simp [wkH,hlow]⟩
  ·simp at h
end
section
open Go.RowKit
set_option maxHeartbeats 1000000 in
theorem o_m5 (a n:Nat) (ha:size a≤1000000) (hn:n≤8192):Eqn Tryz.prog o_gw [.d (.agg [natW a]),.d (.int .i64 n)] [] (.tup [.d (.agg [natW (a*2^n)]),.d (.int .i64 0)]) []:=by
 refine Eqn.pure o_gy (o_lr _ _) ?_
 refine cc (c':=?z8) ?_ ?_
 case refine_1=>cbv<;>exact rfl
 try simp only [natW,W]
 have h1:¬(n:Int)<0:=by omega
 have h2:¬(8192:Int)<n:=by omega
 refine G1 (fs h1 h2) ?_;try with_reducible exact tt
 refine AW.cond rfl (fun h=>?_) (fun h=>?_)
 ·simp [h1,h2] at h
 have hq:(n:Int)/64=(n/64:Nat):=rfl
 have hr:(n:Int).tmod 64=(n%64:Nat):=by rw [Int.tmod_eq_emod_of_nonneg (by omega)];rfl
 have hd:n/64≤128:=by omega
 have hm:n%64<64:=by omega
 have hv:∀l:List Nat,wval l=a→wval (List.replicate (n/64) 0++movedL (n%64) 0 l)=a*2^n:=by
  intro l hl
  rw [o_6s,o_6t,o_71,List.length_replicate,hl,Nat.zero_add,Nat.add_zero]
  rw [show (18446744073709551616:Nat)=2^64 by rfl,←Nat.pow_mul,Nat.mul_left_comm,←Nat.pow_add,Nat.div_add_mod]
 replace hv:=hv (words a) (o_l3 a)
 have hsm:small (List.replicate (n/64) 0++movedL (n%64) 0 (words a)):=by
  intro x hx
  rcases List.mem_append.1 hx with hx | hx
  ·rw [List.eq_of_mem_replicate hx];omega
  ·exact o_72 hm (o_l4 a) (Nat.two_pow_pos _) x hx
 have hl:=o_70 (n%64) (words a) 0
 generalize n/64=q at *
 generalize n%64=r at *
 unfold size at ha
 refine G1 (fs hq hr) ?_;try with_reducible exact tt
 refine CallS.pu (o_m4 (words a) r hm (o_l4 a) (by omega)) ?_
 (try (simp -implicitDefEqProofs [W,hl];try simp (disch:=omega) only [w64,wu64]))
 repeat (first | refine AW.seq ?_ | refine AW.block ?_ | (refine AW.reg mix ?_;simp -implicitDefEqProofs [W,hl];try simp (disch:=omega) only [w64,wu64]) | (refine need.of (by first | omega | kernel_rfl) ?_) | (refine AW.fin ?_;try simp -implicitDefEqProofs [W,hl]))
 have hlen:(List.replicate q 0++movedL r 0 (words a)).length=q+((words a).length+1):=by simp [hl]
 have hcell:List.replicate q (V.d (.int .u64 0))++List.map (V.d ∘ fun x:Nat=>D.int .u64 x) (movedL r 0 (words a))=((List.replicate q 0++movedL r 0 (words a)).map fun x:Nat=>D.int .u64 x).map V.d:=by simp
 rw [hcell]
 generalize List.replicate q 0++movedL r 0 (words a)=ws at *
 have hlen2:q+((words a).length+1)=ws.length:=hlen.symm
 refine CallS.pf 3 1 ⟨136,_⟩ (ws.map fun x:Nat=>.int .u64 x) (o_lb ws hsm (by omega)) (by first | rfl | (simp [natW,W,hlen2,List.take_of_length_le];done)) ?_
 (try (simp -implicitDefEqProofs [natW,W,hlen2,List.take_of_length_le];try simp (disch:=omega) only [w64,wu64]))
 repeat (first | refine AW.seq ?_ | refine AW.block ?_ | (refine AW.reg mix ?_;simp -implicitDefEqProofs [natW,W,hlen2,List.take_of_length_le];try simp (disch:=omega) only [w64,wu64]) | (refine need.of (by first | omega | kernel_rfl) ?_) | (refine AW.fin ?_;try simp -implicitDefEqProofs [natW,W,hlen2,List.take_of_length_le]))
 refine Sub1.of ?_
 rw [hv]
end
section
open Go.RowKit
theorem o_m6 {x:Nat} (h0:0<x) (h:x<18446744073709551616):words x=[x]:=by
 have:=o_l6 (ws:=[x]) (by intro y hy;simp at hy;omega) (by intro k hk;simp at hk;subst hk;simp;omega)
 simpa [wval] using this
theorem o_m7 {x:Nat} (h:x<18446744073709551616):small [x]:=by intro y hy;simp at hy;omega

theorem Sub1.tup {l r:List V} (h:Subs l r):Sub1 (.tup l) (.tup r):=fun m v k=>by
 unfold V.rep at k ⊢
 obtain ⟨vs,h1,h2⟩:=k
 exact ⟨vs,h1,h m vs h2⟩
theorem Subs.cons {x y:V} {l r:List V} (h:Sub1 x y) (h':Subs l r):Subs (x::l) (y::r):=fun m vs k=>by
 obtain ⟨v,r,rfl,h1,h2⟩:=V.reps_cons'.1 k
 exact V.reps_cons.2 ⟨h m v h1,h' m r h2⟩
theorem Sub1.nat0:Sub1 (.d (.agg [.nilsl])) (.d (.agg [natW 0])):=fun m v k=>by
 rw [V.rep_d] at k ⊢
 unfold D.rep at k ⊢
 obtain ⟨vs,h1,h2,h3⟩:=k
 refine ⟨vs,h1,h2,?_⟩
 obtain ⟨u,r,rfl,h4,h5⟩:=D.reps_cons'.1 h3
 have:=(V.rep_d (m:=m)).1 (Sub1.nil m u (V.rep_d.2 h4))
 exact D.reps_cons.2 ⟨this,h5⟩

theorem o_m8 {m n:Nat}:cmpZ m n<0↔m<n:=by unfold cmpZ;split<;>(try split)<;>omega
theorem o_m9 (x y:Nat) (hx:x<18446744073709551616) (h0:0<y):Eqn Tryz.prog o_h8 [.d (.int .u64 0),.d (.int .u64 x),.d (.int .u64 y)] [] (.tup [.d (.int .u64 (x/y:Nat)),.d (.int .u64 (x%y:Nat))]) []:=by
 refine Eqn.pure o_ha (o_lr _ _) ?_
 refine cc (c':=?z9) ?_ ?_
 case refine_1=>cbv<;>exact rfl
 have h1:¬(y:Int)=0:=by omega
 have h1':¬y=0:=by omega
 have h2:¬(y:Int)≤0:=by omega
 refine G1 (fs h1 (fs h2 h1')) ?_;try with_reducible exact tt
 refine AW.cond rfl (fun h=>?_) (fun h=>?_)
 ·simp [h1'] at h
 refine G1 (fs h1 (fs h2 h1')) ?_;try with_reducible exact tt
 refine AW.cond rfl (fun h=>?_) (fun h=>?_)
 ·simp [h1',h2] at h
 refine G1 (fs h1 (fs h2 h1')) ?_;try with_reducible exact tt
 refine AW.cond rfl (fun h=>?_) (fun h=>?_)
 ·have hle:=Nat.div_le_self x y
  have e1:IntKind.u64.wrap ((x:Int)/y)=(x:Int)/y:=by
   rw [←Int.natCast_ediv]
   generalize x/y=q at *
   exact wu64 (by omega) (by omega)
  have e2:(x:Int).tmod y=((x%y:Nat):Int):=by rw [Int.tmod_eq_emod_of_nonneg (by omega)];rfl
  refine G1 (fs h1 (fs h2 (fs h1' (fs e1 e2)))) ?_;try with_reducible exact tt
 ·simp at h

theorem o_ma (x y:Nat) (hx:x<18446744073709551616) (h0:0<y) (hy:y<18446744073709551616):Eqn Tryz.prog o_gk [.d (.sl 1 [.int .u64 x]),.d (.int .u64 y)] [] (.tup [.d (.sl 1 [.int .u64 (x/y:Nat)]),.d (.int .u64 (x%y:Nat))]) []:=by
 refine Eqn.pure o_gm (o_lr _ _) ?_
 refine cc (c':=?z10) ?_ ?_
 case refine_1=>cbv<;>exact rfl
 refine G0 ?_;try with_reducible exact tt
 refine AW.loopT (α:=Nat) 1 (fun i=>[(8,.d (.int .i64 ((i:Int)-1))),(7,.d (.int .u64 (if i=0 then (x%y:Nat) else 0)))]) (fun i=>[(0,⟨136,[.d (.int .u64 (if i=0 then (x/y:Nat) else 0))]⟩)]) (fun i=>i≤1) (fun i=>i) 1 ?_ ?_ (Nat.le_refl _) ?_ ?_ ?_
 ·simp
 ·simp
 ·simp
 ·simp
 rintro i hi
 simp
 cases i with
 | zero =>
  refine G0 ?_;try with_reducible exact tt
  refine AW.cond rfl (fun h=>?_) (fun h=>?_)
  ·simp at h
  refine AW.exit ?_
  (try (simp -implicitDefEqProofs;try simp (disch:=omega) only [w64,wu64]))
  refine AW.freeze 0 1 ⟨136,_⟩ [.int .u64 (x/y:Nat)] (by rfl) (by simp) ?_
  simp
  refine G0 ?_;try with_reducible exact tt
 | succ i =>
  obtain rfl:i=0:=by omega
  refine G0 ?_;try with_reducible exact tt
  refine AW.cond rfl (fun h=>?_) (fun h=>?_)
  ·refine G0 ?_;try with_reducible exact tt
   refine CallS.pu (o_m9 x y hx h0) (R0 ?_);try with_reducible exact tt
   exact ⟨0,by omega,rfl,by simp,by simp⟩
  ·simp at h

theorem o_mb (a b:Nat) (ha:a<18446744073709551616) (h0:0<b) (hb:b<18446744073709551616):Eqn Tryz.prog o_en [.d (.agg [natW a]),.d (.agg [natW b])] [] (.tup [.d (.agg [natW (a/b)]),.d (.agg [natW (a%b)]),.d (.int .i64 0)]) []:=by
 refine Eqn.pure o_ep (o_ls _ _ _) ?_
 have sa:size a≤1:=by
  rw [size]
  rcases Nat.eq_zero_or_pos a with rfl | h
  ·simp [words,wordsF]
  ·rw [o_m6 h ha];simp
 have sb:size b≤1:=by rw [size,o_m6 h0 hb];simp
 refine cc (c':=?z11) ?_ ?_
 case refine_1=>cbv<;>exact rfl
 refine G0 ?_;try with_reducible exact tt
 refine CallS.pu (o_ld b) (R0 ?_);try with_reducible exact tt
 have hz:(b==0)=false:=by simp;omega
 refine AW.cond rfl (fun h=>?_) (fun h=>?_)
 ·simp [hz] at h
 refine G0 ?_;try with_reducible exact tt
 refine CallS.pu (o_lf a b (by omega) (by omega)) (R0 ?_);try with_reducible exact tt
 refine AW.cond rfl (fun h=>?_) (fun h=>?_)
 ·have hlt:a<b:=by simpa [o_m8] using h
  rw [Nat.div_eq_of_lt hlt,Nat.mod_eq_of_lt hlt]
  refine G0 ?_;try with_reducible exact tt
  refine CallS.pu (o_lc (words a) (o_l4 a) (by unfold size at sa;omega)) (R0 ?_);try with_reducible exact tt
  rw [o_l3]
  exact Sub1.tup (Subs.cons (Sub1.nat0) (Subs.refl _))
 ·have hge:¬a<b:=fun hlt=>by simp [o_m8,hlt] at h
  have e:natW a = .sl 1 [.int .u64 a]:=by rw [natW,o_m6 (by omega) ha];rfl
  have e':natW b = .sl 1 [.int .u64 b]:=by rw [natW,o_m6 (by omega) hb];rfl
  refine G1 (fs e e') ?_;try with_reducible exact tt
  refine AW.cond rfl (fun h=>?_) (fun h=>?_)
  ·refine G1 (fs e e') ?_;try with_reducible exact tt
   refine CallS.pu (o_ma a b ha h0 hb) (R0 ?_);try with_reducible exact tt
   refine CallS.pu (o_lb [a/b] (o_m7 (by have:=Nat.div_le_self a b;omega)) (by simp)) (R0 ?_);try with_reducible exact tt
   refine CallS.pf 4 1 ⟨136,_⟩ [.int .u64 (a%b:Nat)] (o_lc [a%b] (o_m7 (by have:=Nat.mod_lt a h0;omega)) (by simp)) (by first | rfl | (simp;done)) (R0 ?_);try with_reducible exact tt
   simp [wval]
  ·simp [e'] at h
theorem o_mc (a b:Nat) (ha:a<18446744073709551616) (hb:b<18446744073709551616):Eqn Tryz.prog o_ek [.d (.agg [natW a]),.d (.agg [natW b])] [] (.d (.agg [natW (Nat.gcd a b)])) []:=by
 refine Eqn.pure o_em (o_5e _) ?_
 refine cc (c':=?z12) ?_ ?_
 case refine_1=>cbv<;>exact rfl
 refine G0 ?_;try with_reducible exact tt
 refine AW.loopT (α:=Nat×Nat) 3 (fun _=>[]) (fun p=>[(0,⟨47,[.d (natW p.1)]⟩),(1,⟨47,[.d (natW p.2)]⟩)]) (fun p=>p.1<18446744073709551616∧p.2<18446744073709551616∧Nat.gcd p.1 p.2=Nat.gcd a b) (fun p=>p.2) (a,b) ?_ ?_ ⟨ha,hb,rfl⟩ ?_ ?_ ?_
 ·simp
 ·simp
 ·simp
 ·simp
 rintro ⟨x,y⟩ ⟨hx,hy,hg⟩
 simp only at hx hy hg
 simp
 refine G0 ?_;try with_reducible exact tt
 refine CallS.pu (o_ld y) (R0 ?_);try with_reducible exact tt
 by_cases h0:y=0
 ·subst h0
  simp
  refine AW.cond rfl (fun h=>?_) (fun h=>?_)
  ·simp at h
  refine AW.exit ?_
  (try (simp -implicitDefEqProofs;try simp (disch:=omega) only [w64,wu64]))
  have sx:size x≤1:=by
   rw [size]
   rcases Nat.eq_zero_or_pos x with rfl | h
   ·simp [words,wordsF]
   ·rw [o_m6 h hx];simp
  refine G0 ?_;try with_reducible exact tt
  refine CallS.pu (o_lc (words x) (o_l4 x) (by unfold size at sx;omega)) (R0 ?_);try with_reducible exact tt
  refine Sub1.of ?_
  rw [o_l3,←hg,Nat.gcd_zero_right]
 ·refine AW.cond rfl (fun h=>?_) (fun h=>?_)
  ·refine G0 ?_;try with_reducible exact tt
   refine CallS.pu (o_mb x y hx (by omega) hy) (R0 ?_);try with_reducible exact tt
   have hlt:=Nat.mod_lt x (show y>0 by omega)
   exact ⟨y,x%y,⟨hy,by omega,by rw [←hg,Nat.gcd_comm y,←Nat.gcd_rec,Nat.gcd_comm]⟩,hlt,Subs.refl _,Subs.refl _⟩
  ·simp at h
   exact absurd h h0
end
section
open Go.RowKit
theorem o_md {x:Nat} (h:x<18446744073709551616):size x≤1:=by
 rw [size]
 rcases Nat.eq_zero_or_pos x with rfl | h0
 ·simp [words,wordsF]
 ·rw [o_m6 h0 h];simp

theorem o_me (a:Nat):Eqn Tryz.prog o_e2 [.d (.bool false),.d (.agg [natW a])] [] (.d (.agg [natW a,.bool false])) []:=by
 refine Eqn.pure o_e4 (o_5e _) ?_
 refine cc (c':=?z13) ?_ ?_
 case refine_1=>cbv<;>exact rfl
 refine G0 ?_;try with_reducible exact tt

theorem o_mf (a:Nat) (s:Bool):Eqn Tryz.prog o_e8 [.d (.agg [natW a,.bool s])] [] (.d (.agg [natW a])) []:=by
 refine Eqn.pure o_ea (o_5e _) ?_
 refine cc (c':=?z14) ?_ ?_
 case refine_1=>cbv<;>exact rfl
 refine G0 ?_;try with_reducible exact tt

theorem o_mg (a:Nat) (s:Bool):Eqn Tryz.prog o_ee [.d (.agg [natW a,.bool s])] [] (.d (.bool s)) []:=by
 refine Eqn.pure o_eg (o_5e _) ?_
 refine cc (c':=?z15) ?_ ?_
 case refine_1=>cbv<;>exact rfl
 refine G0 ?_;try with_reducible exact tt

theorem o_mh (n:Nat) (h:n<9223372036854775808):Eqn Tryz.prog o_b1 [.d (.int .i64 n)] [] (.d (.agg [natW n,.bool false])) []:=by
 refine Eqn.pure o_b3 (o_5e _) ?_
 refine cc (c':=?z16) ?_ ?_
 case refine_1=>cbv<;>exact rfl
 have h0:¬(n:Int)<0:=by omega
 refine G0 ?_;try with_reducible exact tt
 refine AW.cond rfl (fun h=>?_) (fun h=>?_)
 ·simp [h0] at h
 have e:IntKind.u64.wrap (n:Int)=n:=wu64 (by omega) (by omega)
 refine G1 e ?_;try with_reducible exact tt
 refine CallS.pf 1 1 ⟨136,_⟩ [.int .u64 n] (o_lc [n] (o_m7 (by omega)) (by simp)) (by first | rfl | (simp;done)) (R0 ?_);try with_reducible exact tt
 refine CallS.pu (o_me n) (R0 ?_);try with_reducible exact tt

theorem o_mi (a d:Nat) (s:Bool) (h:size d≤1000000):Eqn Tryz.prog o_bp [.d (.agg [natW a,.bool s,natW d])] [] (.d (.agg [natW (d+1)])) []:=by
 refine Eqn.pure o_br (o_5e _) ?_
 refine cc (c':=?z17) ?_ ?_
 case refine_1=>cbv<;>exact rfl
 refine G0 ?_;try with_reducible exact tt
 refine CallS.pf 2 1 ⟨136,_⟩ [.int .u64 (1:Nat)] (o_lc [1] (o_m7 (by omega)) (by simp)) (by first | rfl | (simp;done)) (R0 ?_);try with_reducible exact tt
 refine CallS.pu (o_lt d 1 h (by have:=o_md (x:=1) (by omega);omega)) (R0 ?_);try with_reducible exact tt
theorem o_mj (a b:Nat) (ha:a<18446744073709551616) (h0:0<b) (hb:b<18446744073709551616):Eqn Tryz.prog o_bg [.d (.agg [natW a,.bool false]),.d (.agg [natW b])] [] (.d (.agg [natW (a/Nat.gcd a b),.bool false,natW (b/Nat.gcd a b-1)])) []:=by
 refine Eqn.pure o_bi (o_5e _) ?_
 refine cc (c':=?z18) ?_ ?_
 case refine_1=>cbv<;>exact rfl
 have hg:0<Nat.gcd a b:=Nat.gcd_pos_of_pos_right _ h0
 have hg2:Nat.gcd a b≤b:=Nat.gcd_le_right _ h0
 have hq:0<b/Nat.gcd a b:=Nat.div_pos hg2 hg
 have hq2:b/Nat.gcd a b≤b:=Nat.div_le_self _ _
 refine G0 ?_;try with_reducible exact tt
 refine CallS.pu (o_mf a false) (R0 ?_);try with_reducible exact tt
 refine CallS.pu (o_mc a b ha hb) (R0 ?_);try with_reducible exact tt
 generalize Nat.gcd a b=g at *
 refine CallS.pu (o_mf a false) (R0 ?_);try with_reducible exact tt
 refine CallS.pu (o_mb a g ha hg (by omega)) (R0 ?_);try with_reducible exact tt
 refine CallS.pu (o_mb b g hb hg (by omega)) (R0 ?_);try with_reducible exact tt
 refine CallS.pf 8 1 ⟨136,_⟩ [.int .u64 (1:Nat)] (o_lc [1] (o_m7 (by omega)) (by simp)) (by first | rfl | (simp;done)) (R0 ?_);try with_reducible exact tt
 refine CallS.pu (o_lx (b/g) 1 (by have:=o_md (x:=b/g) (by omega);omega) (by omega)) (R0 ?_);try with_reducible exact tt
 refine CallS.pu (o_mg a false) (R0 ?_);try with_reducible exact tt
 refine CallS.pu (o_me (a/g)) (R0 ?_);try with_reducible exact tt

theorem o_mk (k:Nat) (hk:k<64):Eqn Tryz.prog o_fn [.d (.int .i64 k)] [] (.tup [.d (.agg [natW 1,.bool false,natW (2^k-1)]),.d (.int .i64 0)]) []:=by
 refine Eqn.pure o_fp (o_lr _ _) ?_
 refine cc (c':=?z19) ?_ ?_
 case refine_1=>cbv<;>exact rfl
 refine G0 ?_;try with_reducible exact tt
 refine CallS.pf 1 1 ⟨136,_⟩ [.int .u64 (1:Nat)] (o_lc [1] (o_m7 (by omega)) (by simp)) (by first | rfl | (simp;done)) (R0 ?_);try with_reducible exact tt
 refine CallS.pu (o_m5 1 k (by have:=o_md (x:=1) (by omega);omega) (by omega)) (R0 ?_);try with_reducible exact tt
 refine AW.cond rfl (fun h=>?_) (fun h=>?_)
 ·simp at h
 refine G0 ?_;try with_reducible exact tt
 refine CallS.pu (o_mh 1 (by omega)) (R0 ?_);try with_reducible exact tt
 refine CallS.pu (o_mj 1 (2^k) (by omega) (Nat.two_pow_pos k) (Nat.pow_lt_pow_right (by omega) hk)) (R0 ?_);try with_reducible exact tt
end
section
open Go.RowKit
@[simp] theorem o_ml:ByteArray.size ⟨#[]⟩=0:=rfl
@[simp] theorem o_mm:ByteArray.size ⟨#[47]⟩=1:=rfl
end
section
open Go.RowKit
def BL (cs:List Bool):D:=.sl cs.length (cs.map .bool)
abbrev tapeO (cs:List Bool) (p:Nat) (dead:Bool):Ob:=⟨109,[.d (.int .i64 p),.d (.bool dead),.d (BL cs)]⟩

def flipB (cs:List Bool) (p:Nat) (dead:Bool):Bool:=if dead∨p=cs.length then false else cs.getD p false
def flipE (cs:List Bool) (p:Nat) (dead:Bool):Int:=if dead∨p=cs.length then 8 else 0
def flipP (cs:List Bool) (p:Nat) (dead:Bool):Nat:=if dead∨p=cs.length then p else p+1
def flipD (cs:List Bool) (p:Nat) (dead:Bool):Bool:=if dead∨p=cs.length then true else dead

theorem o_mn (n:Nat) (l:List D) (hl:l.length=n) (hn:n≤4000000):Eqn Tryz.prog o_bs [.d (.sl n l)] [] (.d (.sl n l)) []:=by
 refine Eqn.pure o_bu (o_5e _) ?_
 refine cc (c':=?z20) ?_ ?_
 case refine_1=>cbv<;>exact rfl
 rcases Nat.eq_zero_or_pos n with rfl | h0
 ·have:l=[]:=List.eq_nil_of_length_eq_zero hl
  subst this
  refine AW.empty 0 rfl ?_ ?_
  ·simp
   refine G0 ?_;try with_reducible exact tt
   refine AW.cond rfl (fun h=>?_) (fun h=>?_)
   ·refine G0 ?_;try with_reducible exact tt
    exact Sub1.nil
   ·simp at h
  ·simp
   refine G0 ?_;try with_reducible exact tt
   refine AW.cond rfl (fun h=>?_) (fun h=>?_)
   ·simp at h
   ·refine G0 ?_;try with_reducible exact tt
    exact Sub1.sl0
 ·refine G1 h0 ?_;try with_reducible exact tt
  refine AW.cond rfl (fun h=>?_) (fun h=>?_)
  ·simp at h
  ·refine G0 ?_;try with_reducible exact tt
   have h1:¬n=0:=by omega
   simp [h1,hl]
   refine need.of (by omega) ?_
   refine AW.freeze 0 1 ⟨4,l.map .d⟩ l (by simp) rfl ?_
   simp
   refine G0 ?_;try with_reducible exact tt
   have:l.take n=l:=List.take_of_length_le (by omega)
   simp [this]

theorem o_mo (cs:List Bool) (p:Nat) (dd:Bool) (hp:p≤cs.length) (hn:cs.length≤4000000):Eqn Tryz.prog o_gq [.p 0 0] [tapeO cs p dd] (.tup [.d (.bool (flipB cs p dd)),.d (.int .i64 (flipE cs p dd))]) [tapeO cs (flipP cs p dd) (flipD cs p dd)]:=by
 refine Eqn.obj1 o_gs (o_lr _ _) ⟨rfl,fun _=>rfl⟩ ?_
 refine cc (c':=?z21) ?_ ?_
 case refine_1=>cbv<;>exact rfl
 try simp only [tapeO,BL]
 cases dd with
 | true =>
  refine G0 ?_;try with_reducible exact tt
  refine AW.cond rfl (fun h=>?_) (fun h=>?_)
  ·refine G0 ?_;try with_reducible exact tt
   simp [flipB,flipE,flipP,flipD]
  ·simp at h
 | false =>
  by_cases h:p=cs.length
  ·subst h
   refine G0 ?_;try with_reducible exact tt
   refine AW.cond rfl (fun h=>?_) (fun h=>?_)
   ·refine G0 ?_;try with_reducible exact tt
    simp [flipB,flipE,flipP,flipD]
   ·simp at h
  ·have h1:¬(p:Int)=cs.length:=by omega
   have h2:p<cs.length:=by omega
   refine G1 (fs h1 h) ?_;try with_reducible exact tt
   refine AW.cond rfl (fun h=>?_) (fun h=>?_)
   ·simp [h1] at h
   ·have e1:IntKind.i64.wrap ((p:Int)+1)=(p:Int)+1:=w64 (by omega) (by omega)
    have e2:IntKind.i64.wrap ((p:Int)+1-1)=(p:Int):=by rw [Int.add_sub_cancel];exact w64 (by omega) (by omega)
    refine G1 (fs h1 (fs h2 (fs e1 e2))) ?_;try with_reducible exact tt
    have h4:¬p=cs.length:=by omega
    have h3:cs[p]?.getD false=cs[p]:=by simp [h2]
    simp [flipB,flipE,flipP,flipD,h4,h3]

def halfR (cs:List Bool):Nat→Nat→Bool→Bool×Int×Nat×Bool
 | 0,p,dd=>(true,0,p,dd)
 | k+1,p,dd=>if flipB cs p dd then halfR cs k (flipP cs p dd) (flipD cs p dd) else (false,flipE cs p dd,flipP cs p dd,flipD cs p dd)

theorem o_mp {cs:List Bool} {p:Nat} {dd:Bool} (h:p≤cs.length):flipP cs p dd≤cs.length:=by
 unfold flipP;split
 ·exact h
 ·rename_i h';rw [not_or] at h';omega

theorem o_mq (cs:List Bool) (p:Nat) (dd:Bool) (k:Int) (hk:k≤4000000) (hp:p≤cs.length) (hn:cs.length≤4000000) :
  Eqn Tryz.prog o_fb [.p 0 0,.d (.int .i64 k)] [tapeO cs p dd] (.tup [.d (.bool (halfR cs k.toNat p dd).1),.d (.int .i64 (halfR cs k.toNat p dd).2.1)]) [tapeO cs (halfR cs k.toNat p dd).2.2.1 (halfR cs k.toNat p dd).2.2.2]:=by
 refine Eqn.obj1 o_fd (o_lr _ _) ⟨rfl,fun _=>rfl⟩ ?_
 refine cc (c':=?z22) ?_ ?_
 case refine_1=>cbv<;>exact rfl
 obtain ⟨K,hK,hK2⟩:∃K:Nat,K=k.toNat∧max 0 k=(K:Int):=⟨k.toNat,rfl,by omega⟩
 rw [←hK]
 refine G1 hK2 ?_;try with_reducible exact tt
 refine AW.loopT (α:=Nat×Nat×Bool) 1 (fun s=>[(10,.d (.int .i64 (s.1:Int)))]) (fun s=>[(0,tapeO cs s.2.1 s.2.2)]) (fun s=>s.1≤K∧s.2.1≤cs.length∧halfR cs (K-s.1) s.2.1 s.2.2=halfR cs K p dd) (fun s=>K-s.1) (0,p,dd) ?_ ?_ ⟨Nat.zero_le _,hp,rfl⟩ ?_ ?_ ?_
 ·simp
 ·simp
 ·simp
 ·simp
 rintro ⟨i,q,d⟩ ⟨hi,hq,hR⟩
 simp only at hi hq hR
 rw [←hR]
 simp [-Bool.exists_bool]
 by_cases h:i=K
 ·subst h
  refine G0 ?_;try with_reducible exact tt
  refine AW.cond rfl (fun h=>?_) (fun h=>?_)
  ·simp at h
  refine G0 ?_;try with_reducible exact tt
  simp [halfR]
 ·have hlt:(i:Int)<K:=by omega
  have hlt':i<K:=by omega
  obtain ⟨r,hr⟩:∃r,K-i=r+1:=⟨K-i-1,by omega⟩
  refine G1B (fs hlt hlt') ?_;try with_reducible exact tt
  refine AW.cond rfl (fun h=>?_) (fun h=>?_)
  ·refine G0B ?_;try with_reducible exact tt
   refine CallS.o1 0 (o_mo cs q d hq hn) (R0B ?_);try with_reducible exact tt
   refine AW.cond rfl (fun h=>?_) (fun h=>?_)
   ·have hb:flipB cs q d=false:=by simpa using h
    refine G0 ?_;try with_reducible exact tt
    simp [hr,halfR,hb]
   ·have hb:flipB cs q d=true:=by simpa using h
    have ew:IntKind.i64.wrap ((i:Int)+1)=(i:Int)+1:=w64 (by omega) (by omega)
    refine G1B ew ?_;try with_reducible exact tt
    refine ⟨i+1,flipP cs q d,flipD cs q d,⟨hlt',o_mp hq,?_⟩,by omega,by simp,by simp⟩
    rw [hr,halfR,if_pos hb,show K-(i+1)=r by omega]
  ·simp [hlt'] at h
end
section
open Go.RowKit
theorem o_mr (d:Int):Eqn Tryz.prog o_jk [.d (.int .i64 d)] [] (.d (.bool (decide (0≤d∧d≤8)))) []:=by
 refine Eqn.pure o_jm (o_5e _) ?_
 refine cc (c':=?z23) ?_ ?_
 case refine_1=>cbv<;>exact rfl
 by_cases h:0≤d
 ·refine G1 h ?_;try with_reducible exact tt
 ·refine G1 h ?_;try with_reducible exact tt

def okK (k:Int):Bool:=decide (0≤k∧k≤1023)
def wrongZ (d:Int) (ks:List Int):Int:=if 0≤d∧d≤8 then (if ks.all okK then 0 else 2) else 10

theorem o_ms (d:Int) (ks:List Int) (hn:ks.length≤1000000):Eqn Tryz.prog o_jq [.d (.int .i64 d),.d (.sl ks.length (ks.map fun k:Int=>.int .i64 k))] [] (.d (.int .i64 (wrongZ d ks))) []:=by
 refine Eqn.pure o_js (o_5e _) ?_
 refine cc (c':=?z24) ?_ ?_
 case refine_1=>cbv<;>exact rfl
 refine G0 ?_;try with_reducible exact tt
 refine CallS.pu (o_mr d) (R0 ?_);try with_reducible exact tt
 by_cases hd:0≤d∧d≤8
 ·refine AW.cond rfl (fun h=>?_) (fun h=>?_)
  ·simp [hd] at h
  refine G0 ?_;try with_reducible exact tt
  refine AW.loopT (α:=Nat) 0 (fun i=>[(12,.d (.int .i64 (i:Int)))]) (fun i=>[]) (fun i=>i≤ks.length∧(ks.take i).all okK=true) (fun i=>ks.length-i) 0 ?_ ?_ ⟨Nat.zero_le _,by simp⟩ ?_ ?_ ?_
  ·simp
  ·simp
  ·simp
  ·simp
  rintro i ⟨hi,hall⟩
  simp
  by_cases h:i=ks.length
  ·subst h
   rw [List.take_length] at hall
   refine G0 ?_;try with_reducible exact tt
   refine AW.cond rfl (fun h=>?_) (fun h=>?_)
   ·simp at h
   refine G0 ?_;try with_reducible exact tt
   refine Sub1.int ?_
   rw [wrongZ,if_pos hd,if_pos hall]
  ·have hi':i<ks.length:=by omega
   have hp:(i:Int)<ks.length:=by omega
   refine G1 (fs hi' hp) ?_;try with_reducible exact tt
   refine AW.cond rfl (fun h=>?_) (fun h=>?_)
   ·have hbad:okK ks[i]=false→wrongZ d ks=2:=by
     intro hb
     rw [wrongZ,if_pos hd,if_neg]
     intro ha
     rw [List.all_eq_true] at ha
     have:=ha ks[i] (List.getElem_mem _)
     rw [hb] at this;cases this
    by_cases h0:ks[i]<0
    ·refine G1 (fs hi' (fs hp h0)) ?_;try with_reducible exact tt
     refine AW.cond rfl (fun h=>?_) (fun h=>?_)
     ·refine G0 ?_;try with_reducible exact tt
      refine Sub1.int ?_
      rw [hbad (by simp [okK];omega)]
     ·simp [h0] at h
    ·by_cases h1:1023<ks[i]
     ·refine G1 (fs hi' (fs hp (fs h0 h1))) ?_;try with_reducible exact tt
      refine AW.cond rfl (fun h=>?_) (fun h=>?_)
      ·refine G0 ?_;try with_reducible exact tt
       refine Sub1.int ?_
       rw [hbad (by simp [okK];omega)]
      ·simp [h0,h1] at h
     ·refine G1 (fs hi' (fs hp (fs h0 h1))) ?_;try with_reducible exact tt
      refine AW.cond rfl (fun h=>?_) (fun h=>?_)
      ·simp [h0,h1] at h
      have ew:IntKind.i64.wrap ((i:Int)+1)=(i:Int)+1:=w64 (by omega) (by omega)
      refine G1 ew ?_;try with_reducible exact tt
      refine ⟨i+1,⟨by omega,?_⟩,by omega,by simp⟩
      rw [List.take_add_one,List.getElem?_eq_getElem hi']
      intro x hx
      rcases List.mem_append.1 hx with hx | hx
      ·exact List.all_eq_true.1 hall x hx
      ·simp at hx
       subst hx
       simp [okK];omega
   ·simp [hi'] at h
 ·refine AW.cond rfl (fun h=>?_) (fun h=>?_)
  ·refine G0 ?_;try with_reducible exact tt
   refine Sub1.int ?_
   rw [wrongZ,if_neg hd]
  ·simp at h
   exact absurd h hd

def partV (d k:Nat):Int:=bits .and .i64 k (IntKind.i64.wrap (IntKind.i64.wrap (2^d)-1))
theorem o_mt (d k:Nat) (hd:d≤8) (hk:k≤1023):Eqn Tryz.prog o_jt [.d (.int .i64 d),.d (.int .i64 k)] [] (.tup [.d (.int .i64 (k/2^d:Nat)),.d (.int .i64 (partV d k))]) []:=by
 refine Eqn.pure o_jv (o_lr _ _) ?_
 refine cc (c':=?z25) ?_ ?_
 case refine_1=>cbv<;>exact rfl
 refine G0 ?_;try with_reducible exact tt
 exact Sub1.of rfl

theorem o_mu (d k:Int):Eqn Tryz.prog o_jq [.d (.int .i64 d),.d (.sl 1 [.int .i64 k])] [] (.d (.int .i64 (wrongZ d [k]))) []:=o_ms d [k] (by simp)
theorem o_mv (d k j:Int):Eqn Tryz.prog o_jq [.d (.int .i64 d),.d (.sl 2 [.int .i64 k,.int .i64 j])] [] (.d (.int .i64 (wrongZ d [k,j]))) []:=o_ms d [k,j] (by simp)

theorem o_mw {d k:Int} {ks:List Int} (h:wrongZ d (k::ks)=0):0≤d∧d≤8∧0≤k∧k≤1023:=by
 unfold wrongZ at h
 split at h
 ·split at h
  ·rename_i h1 h2
   simp [okK] at h2
   omega
  ·omega
 ·omega
end
section
open Go.RowKit
theorem o_mx (m n:Nat) (hm:size m≤1000000) (hn:size n≤1000000) (h:m<n):Eqn Tryz.prog o_eq [.d (.agg [natW m]),.d (.agg [natW n])] [] (.tup [.d (.agg [.nilsl]),.d (.int .i64 2)]) []:=by
 refine Eqn.pure o_es (o_lr _ _) ?_
 refine cc (c':=?z28) ?_ ?_
 case refine_1=>cbv<;>exact rfl
 refine G0 ?_;try with_reducible exact tt
 refine CallS.pu (o_lf m n hm hn) (R0 ?_);try with_reducible exact tt
 have hc:cmpZ m n = -1:=by unfold cmpZ;rw [if_pos h]
 refine AW.cond rfl (fun h=>?_) (fun h=>?_)
 ·refine G0 ?_;try with_reducible exact tt
 ·simp [hc] at h

theorem o_my (p q:Nat) (hp:size p≤1000000) (hq:size q≤1000000):Eqn Tryz.prog o_iw [.d (.agg [natW p]),.d (.agg [natW q])] [] (.d (.bool (decide (0<q∧p≤q)))) []:=by
 refine Eqn.pure o_iy (o_5e _) ?_
 refine cc (c':=?z29) ?_ ?_
 case refine_1=>cbv<;>exact rfl
 by_cases h:q=0
 ·subst h
  refine G0 ?_;try with_reducible exact tt
  refine CallS.pu (o_ld 0) (R0 ?_);try with_reducible exact tt
 ·have h0:(q==0)=false:=by simpa using h
  have hc:decide (cmpZ p q≤0)=decide (0<q∧p≤q):=by
   unfold cmpZ
   split
   ·simp;omega
   ·split
    ·simp;omega
    ·simp;omega
  refine G0 ?_;try with_reducible exact tt
  refine CallS.pu (o_ld q) (R1 (fs h0 h) ?_);try with_reducible exact tt
  refine CallS.pu (o_lf p q hp hq) (R1 (fs h0 h) ?_);try with_reducible exact tt
  try simp [hc]

def ratioR (cs:List Bool) (q:Nat):Nat→Nat→Nat→Bool→Bool×Int×Nat×Bool
 | 0,_,p,dd=>(true,0,p,dd)
 | f+1,r,p,dd =>
  if r<q then
   if flipE cs p dd=0 then
    if flipB cs p dd≠decide (q≤r+r)∨(if q≤r+r then r+r-q else r+r)=0 then (decide (q≤r+r)&&!flipB cs p dd,0,flipP cs p dd,flipD cs p dd)
    else ratioR cs q f (if q≤r+r then r+r-q else r+r) (flipP cs p dd) (flipD cs p dd)
   else (false,flipE cs p dd,flipP cs p dd,flipD cs p dd)
  else (true,0,p,dd)
def ratioA (cs:List Bool) (a q:Nat) (p:Nat) (dd:Bool):Bool×Int×Nat×Bool:=if a=0 then (false,0,p,dd) else ratioR cs q (cs.length+1-p) a p dd

theorem o_mz (cs:List Bool) (a q p:Nat) (dd:Bool) (ha:a≤q) (h0:0<q) (hq:q<9223372036854775808) (hp:p≤cs.length) (hn:cs.length≤4000000) :
  Eqn Tryz.prog o_iz [.p 0 0,.d (.agg [natW a]),.d (.agg [natW q])] [tapeO cs p dd] (.tup [.d (.bool (ratioA cs a q p dd).1),.d (.int .i64 (ratioA cs a q p dd).2.1)]) [tapeO cs (ratioA cs a q p dd).2.2.1 (ratioA cs a q p dd).2.2.2]:=by
 refine Eqn.obj1 o_j1 (o_lr _ _) ⟨rfl,fun _=>rfl⟩ ?_
 refine cc (c':=?z30) ?_ ?_
 case refine_1=>cbv<;>exact rfl
 have sz:∀{x:Nat},x<18446744073709551616→size x≤1000000:=fun hx=>Nat.le_trans (o_md hx) (by omega)
 have hg:=o_my a q (sz (by omega)) (sz (by omega))
 rw [show decide (0<q∧a≤q)=true by simp;omega] at hg
 refine G0B ?_;try with_reducible exact tt
 refine CallS.pu (hg) (R0B ?_);try with_reducible exact tt
 refine AW.cond rfl (fun h=>?_) (fun h=>?_)
 ·simp at h
 clear h
 refine G0B ?_;try with_reducible exact tt
 refine CallS.pu (o_ld a) (R0B ?_);try with_reducible exact tt
 refine AW.cond rfl (fun h=>?_) (fun h=>?_)
 ·have ha0:a=0:=by simpa using h
  subst ha0
  refine G0B ?_;try with_reducible exact tt
  simp [ratioA]
 have ha0:¬a=0:=by simpa using h
 clear h
 rw [ratioA,if_neg ha0]
 obtain ⟨R,hR⟩:∃R,R=ratioR cs q (cs.length+1-p) a p dd:=⟨_,rfl⟩
 rw [←hR]
 refine G0B ?_;try with_reducible exact tt
 refine AW.loopS (α:=Nat×Nat×Bool) 4 3 (fun s=>[(8,.p 3 0)]) (fun s=>[(0,tapeO cs s.2.1 s.2.2),(3,⟨47,[.d (natW s.1)]⟩)]) (fun s=>s.1≤q∧s.2.1≤cs.length∧R=ratioR cs q (cs.length+1-s.2.1) s.1 s.2.1 s.2.2) (fun s=>cs.length+1-s.2.1) (a,p,dd) ?_ ?_ ?_ ?_ ⟨ha,hp,hR⟩ ?_ ?_ ?_
 ·simp
 ·simp
 ·simp
 ·simp
 ·simp
 ·simp
 rintro ⟨r,z,d⟩ ⟨hr,hz,hR⟩
 simp only at hr hz hR
 simp [-Bool.exists_bool]
 obtain ⟨f,hf⟩:∃f,cs.length+1-z=f+1:=⟨cs.length-z,by omega⟩
 rw [hf,ratioR] at hR
 refine G0B ?_;try with_reducible exact tt
 refine CallS.pu (o_lf r q (sz (by omega)) (sz (by omega))) (R0B ?_);try with_reducible exact tt
 refine AW.cond rfl (fun h=>?_) (fun h=>?_)
 ·have hlt:r<q:=by simpa [o_m8] using h
  clear h
  rw [if_pos hlt] at hR
  refine G0B ?_;try with_reducible exact tt
  refine CallS.o1 0 (o_mo cs z d hz hn) (R0B ?_);try with_reducible exact tt
  by_cases hE:flipE cs z d=0
  ·have hE2:flipP cs z d=z+1∧z<cs.length:=by
    unfold flipE at hE
    unfold flipP
    split at hE
    ·omega
    ·rename_i h'
     rw [if_neg h']
     rw [not_or] at h'
     omega
   rw [if_pos hE] at hR
   have ha2:=o_lt r r (sz (by omega)) (sz (by omega))
   generalize flipB cs z d=b at *
   generalize flipD cs z d=d' at *
   rw [hE2.1] at hR ⊢
   have hz':=hE2.2
   clear hE2
   refine AW.cond rfl (fun h=>?_) (fun h=>?_)
   ·simp [hE] at h
   clear h
   refine G0B ?_;try with_reducible exact tt
   refine CallS.pu (ha2) (R0B ?_);try with_reducible exact tt
   by_cases hd:q≤r+r
   ·rw [if_pos hd,show decide (q≤r+r)=true by simp [hd]] at hR
    refine CallS.pu (o_lx (r+r) q (sz (by omega)) hd) (R0B ?_);try with_reducible exact tt
    refine AW.cond rfl (fun h=>?_) (fun h=>?_)
    ·clear h
     cases b with
     | true =>
      simp only [ne_eq,not_true_eq_false,not_false_eq_true,Bool.true_eq_false,Bool.false_eq_true,reduceCtorEq,false_or,true_or,if_true] at hR
      refine G0B ?_;try with_reducible exact tt
      refine CallS.pu (o_ld (r+r-q)) (R0B ?_);try with_reducible exact tt
      by_cases hz0:r+r-q=0
      ·rw [if_pos hz0] at hR
       refine AW.cond rfl (fun h=>?_) (fun h=>?_)
       ·refine G0B ?_;try with_reducible exact tt
        simp [hR]
       ·first | (simp [hz0] at h;done) | (exfalso;simp at h;omega)
      ·rw [if_neg hz0] at hR
       refine AW.cond rfl (fun h=>?_) (fun h=>?_)
       ·first | (simp [hz0] at h;done) | (exfalso;simp at h;omega)
       ·clear h
        refine G0B ?_;try with_reducible exact tt
        refine ⟨r+r-q,z+1,d',5,by omega,by omega,⟨by omega,by omega,by rw [show cs.length+1-(z+1)=f by omega];exact hR⟩,by omega,?_⟩
        simp [swT,swH,sw,Ob.sw,V.ren,V.rens,tapeO]
     | false =>
      simp only [ne_eq,not_true_eq_false,not_false_eq_true,Bool.true_eq_false,Bool.false_eq_true,reduceCtorEq,false_or,true_or,if_true] at hR
      refine G0B ?_;try with_reducible exact tt
      refine AW.cond rfl (fun h=>?_) (fun h=>?_)
      ·refine G0B ?_;try with_reducible exact tt
       simp [hR]
      ·simp at h
    ·simp at h
   ·rw [if_neg hd,show decide (q≤r+r)=false by simp [hd]] at hR
    refine CallS.pu (o_mx (r+r) q (sz (by omega)) (sz (by omega)) (by omega)) (R0B ?_);try with_reducible exact tt
    refine AW.cond rfl (fun h=>?_) (fun h=>?_)
    ·simp at h
    ·clear h
     cases b with
     | false =>
      simp only [ne_eq,not_true_eq_false,not_false_eq_true,Bool.true_eq_false,Bool.false_eq_true,reduceCtorEq,false_or,true_or,if_true] at hR
      refine G0B ?_;try with_reducible exact tt
      refine CallS.pu (o_ld (r+r)) (R0B ?_);try with_reducible exact tt
      by_cases hz0:r+r=0
      ·rw [if_pos hz0] at hR
       refine AW.cond rfl (fun h=>?_) (fun h=>?_)
       ·refine G0B ?_;try with_reducible exact tt
        simp [hR]
       ·first | (simp [hz0] at h;done) | (exfalso;simp at h;omega)
      ·rw [if_neg hz0] at hR
       refine AW.cond rfl (fun h=>?_) (fun h=>?_)
       ·first | (simp [hz0] at h;done) | (exfalso;simp at h;omega)
       ·clear h
        refine G0B ?_;try with_reducible exact tt
        refine ⟨r+r,z+1,d',5,by omega,by omega,⟨by omega,by omega,by rw [show cs.length+1-(z+1)=f by omega];exact hR⟩,by omega,?_⟩
        simp [swT,swH,sw,Ob.sw,V.ren,V.rens,tapeO]
     | true =>
      simp only [ne_eq,not_true_eq_false,not_false_eq_true,Bool.true_eq_false,Bool.false_eq_true,reduceCtorEq,false_or,true_or,if_true] at hR
      refine G0B ?_;try with_reducible exact tt
      refine AW.cond rfl (fun h=>?_) (fun h=>?_)
      ·refine G0B ?_;try with_reducible exact tt
       simp [hR]
      ·simp at h
  ·rw [if_neg hE] at hR
   refine AW.cond rfl (fun h=>?_) (fun h=>?_)
   ·refine G0B ?_;try with_reducible exact tt
    simp [hR]
   ·simp [hE] at h
 ·have hlt:¬r<q:=by simpa [o_m8] using h
  rw [if_neg hlt] at hR
  refine AW.exit ?_
  (try (simp -implicitDefEqProofs [-Bool.exists_bool];try simp (disch:=omega) only [w64,wu64]))
  refine G0B ?_;try with_reducible exact tt
  simp [hR]
end
section
open Go.RowKit
theorem o_n0 {cs:List Bool} {q:Nat}:∀(f r p:Nat) (dd:Bool),p≤cs.length→(ratioR cs q f r p dd).2.2.1≤cs.length
 | 0,_,_,_,h=>h
 | f+1,r,p,dd,h=>by
  rw [ratioR]
  generalize (if q≤r+r then r+r-q else r+r)=r3
  split
  ·split
   ·split
    ·exact o_mp h
    ·exact o_n0 f _ _ _ (o_mp h)
   ·exact o_mp h
  ·exact h
theorem o_n1 {cs:List Bool} {a q p:Nat} {dd:Bool} (h:p≤cs.length):(ratioA cs a q p dd).2.2.1≤cs.length:=by
 rw [ratioA]
 split
 ·exact h
 ·exact o_n0 _ _ _ _ h

def powerR (cs:List Bool) (a q:Nat):Nat→Nat→Bool→Bool×Int×Nat×Bool
 | 0,p,dd=>(true,0,p,dd)
 | k+1,p,dd=>if (ratioA cs a q p dd).1 then powerR cs a q k (ratioA cs a q p dd).2.2.1 (ratioA cs a q p dd).2.2.2 else ratioA cs a q p dd

theorem o_n2 (cs:List Bool) (a q p:Nat) (dd:Bool) (k:Int) (ha:a≤q) (h0:0<q) (hq:q<9223372036854775808) (hk:k≤4000000) (hp:p≤cs.length) (hn:cs.length≤4000000) :
  Eqn Tryz.prog o_iq [.p 0 0,.d (.agg [natW a]),.d (.agg [natW q]),.d (.int .i64 k)] [tapeO cs p dd] (.tup [.d (.bool (powerR cs a q k.toNat p dd).1),.d (.int .i64 (powerR cs a q k.toNat p dd).2.1)]) [tapeO cs (powerR cs a q k.toNat p dd).2.2.1 (powerR cs a q k.toNat p dd).2.2.2]:=by
 refine Eqn.obj1 o_is (o_lr _ _) ⟨rfl,fun _=>rfl⟩ ?_
 refine cc (c':=?z31) ?_ ?_
 case refine_1=>cbv<;>exact rfl
 have sz:∀{x:Nat},x<18446744073709551616→size x≤1000000:=fun hx=>Nat.le_trans (o_md hx) (by omega)
 have hg:=o_my a q (sz (by omega)) (sz (by omega))
 rw [show decide (0<q∧a≤q)=true by simp;omega] at hg
 obtain ⟨K,hK,hK2⟩:∃K:Nat,K=k.toNat∧max 0 k=(K:Int):=⟨k.toNat,rfl,by omega⟩
 rw [←hK]
 obtain ⟨R,hR⟩:∃R,R=powerR cs a q K p dd:=⟨_,rfl⟩
 rw [←hR]
 refine G0B ?_;try with_reducible exact tt
 refine CallS.pu (hg) (R0B ?_);try with_reducible exact tt
 refine AW.cond rfl (fun h=>?_) (fun h=>?_)
 ·simp at h
 clear h
 refine G1B hK2 ?_;try with_reducible exact tt
 refine AW.loopT (α:=Nat×Nat×Bool) 3 (fun s=>[(18,.d (.int .i64 (s.1:Int)))]) (fun s=>[(0,tapeO cs s.2.1 s.2.2)]) (fun s=>s.1≤K∧s.2.1≤cs.length∧R=powerR cs a q (K-s.1) s.2.1 s.2.2) (fun s=>K-s.1) (0,p,dd) ?_ ?_ ⟨Nat.zero_le _,hp,hR⟩ ?_ ?_ ?_
 ·simp
 ·simp
 ·simp
 ·simp
 rintro ⟨i,z,d⟩ ⟨hi,hz,hR⟩
 simp only at hi hz hR
 simp [-Bool.exists_bool]
 by_cases h:i=K
 ·subst h
  rw [Nat.sub_self,powerR] at hR
  refine G0B ?_;try with_reducible exact tt
  refine AW.cond rfl (fun h=>?_) (fun h=>?_)
  ·simp at h
  refine AW.exit ?_
  (try (simp -implicitDefEqProofs [-Bool.exists_bool];try simp (disch:=omega) only [w64,wu64]))
  refine G0B ?_;try with_reducible exact tt
  simp [hR]
 ·have hlt:(i:Int)<K:=by omega
  have hlt':i<K:=by omega
  obtain ⟨r,hr⟩:∃r,K-i=r+1:=⟨K-i-1,by omega⟩
  rw [hr,powerR] at hR
  have hra:=o_mz cs a q z d ha h0 hq hz hn
  have hle:=o_n1 (cs:=cs) (a:=a) (q:=q) (dd:=d) hz
  generalize ratioA cs a q z d=S at *
  obtain ⟨S1,S2,S3,S4⟩:=S
  simp only at hra hR hle
  refine G1B (fs hlt hlt') ?_;try with_reducible exact tt
  refine AW.cond rfl (fun h=>?_) (fun h=>?_)
  ·clear h
   refine G0B ?_;try with_reducible exact tt
   refine CallS.o1 0 (hra) (R0B ?_);try with_reducible exact tt
   refine AW.cond rfl (fun h=>?_) (fun h=>?_)
   ·have hb:S1=false:=by simpa using h
    subst hb
    refine G0B ?_;try with_reducible exact tt
    simp [hR]
   ·have hb:S1=true:=by simpa using h
    subst hb
    rw [if_pos rfl] at hR
    have ew:IntKind.i64.wrap ((i:Int)+1)=(i:Int)+1:=w64 (by omega) (by omega)
    refine G1B ew ?_;try with_reducible exact tt
    refine ⟨i+1,S3,S4,⟨hlt',hle,by rw [show K-(i+1)=r by omega];exact hR⟩,by omega,by simp,by simp⟩
  ·simp [hlt'] at h
end
section
abbrev StepT:=Nat→Nat→Bool→Bool×Int×Nat×Bool
def addL (st:StepT) (top:Nat):Nat→Nat→Bool→Nat→Bool→Int×Nat×Bool×Nat×Bool
 | 0,x,f,p,d=>(0,x,f,p,d)
 | n+1,x,f,p,d =>
  if x=top then (0,x,true,p,d)
  else if (st x p d).2.1=0 then
   if f=true∧(if (st x p d).1 then x+1 else x)=top then (0,top,f,(st x p d).2.2.1,(st x p d).2.2.2)
   else addL st top n (if (st x p d).1 then x+1 else x) f (st x p d).2.2.1 (st x p d).2.2.2
  else ((st x p d).2.1,x,f,(st x p d).2.2.1,(st x p d).2.2.2)

theorem o_n3 {st:StepT} {top:Nat} {N:Nat} (hst:∀x p d,p≤N→(st x p d).2.2.1≤N):∀(n x:Nat) (f:Bool) (p:Nat) (d:Bool),x≤top→p≤N→x≤(addL st top n x f p d).2.1∧(addL st top n x f p d).2.1≤top∧(addL st top n x f p d).2.2.2.1≤N
 | 0,x,f,p,d,hx,hp=>by simp [addL,hx,hp]
 | n+1,x,f,p,d,hx,hp=>by
  rw [addL]
  have:=hst x p d hp
  by_cases h:x=top
  ·simp [h,hp]
  ·simp only [if_neg h]
   by_cases he:(st x p d).2.1=0
   ·simp only [if_pos he]
    have hz:x≤(if (st x p d).1 then x+1 else x)∧(if (st x p d).1 then x+1 else x)≤top:=by split<;>omega
    generalize (if (st x p d).1 then x+1 else x)=z at *
    split
    ·exact ⟨hx,Nat.le_refl _,this⟩
    ·have:=o_n3 hst n z f _ (st x p d).2.2.2 hz.2 this
     exact ⟨by omega,this.2⟩
   ·simp only [if_neg he]
    exact ⟨Nat.le_refl _,hx,this⟩
end
section
open Go.RowKit
theorem o_n4 (d:Int):Eqn Tryz.prog o_ib [.d (.int .i64 d)] [] (.d (.bool (decide (1≤d∧d≤4096)))) []:=by
 refine Eqn.pure o_id (o_5e _) ?_
 refine cc (c':=?z32) ?_ ?_
 case refine_1=>cbv<;>exact rfl
 by_cases h:1≤d
 ·refine G1 h ?_;try with_reducible exact tt
 ·refine G1 h ?_;try with_reducible exact tt

def wrongM (d:Int) (ks:List Int):Int:=if 1≤d∧d≤4096 then (if ks.all okK then 0 else 2) else 10

theorem o_n5 (d:Int) (ks:List Int) (hn:ks.length≤1000000):Eqn Tryz.prog o_ih [.d (.int .i64 d),.d (.sl ks.length (ks.map fun k:Int=>.int .i64 k))] [] (.d (.int .i64 (wrongM d ks))) []:=by
 refine Eqn.pure o_ij (o_5e _) ?_
 refine cc (c':=?z33) ?_ ?_
 case refine_1=>cbv<;>exact rfl
 refine G0 ?_;try with_reducible exact tt
 refine CallS.pu (o_n4 d) (R0 ?_);try with_reducible exact tt
 by_cases hd:1≤d∧d≤4096
 ·refine AW.cond rfl (fun h=>?_) (fun h=>?_)
  ·simp [hd] at h
  refine G0 ?_;try with_reducible exact tt
  refine AW.loopT (α:=Nat) 0 (fun i=>[(12,.d (.int .i64 (i:Int)))]) (fun i=>[]) (fun i=>i≤ks.length∧(ks.take i).all okK=true) (fun i=>ks.length-i) 0 ?_ ?_ ⟨Nat.zero_le _,by simp⟩ ?_ ?_ ?_
  ·simp
  ·simp
  ·simp
  ·simp
  rintro i ⟨hi,hall⟩
  simp
  by_cases h:i=ks.length
  ·subst h
   rw [List.take_length] at hall
   refine G0 ?_;try with_reducible exact tt
   refine AW.cond rfl (fun h=>?_) (fun h=>?_)
   ·simp at h
   refine G0 ?_;try with_reducible exact tt
   refine Sub1.int ?_
   rw [wrongM,if_pos hd,if_pos hall]
  ·have hi':i<ks.length:=by omega
   have hp:(i:Int)<ks.length:=by omega
   refine G1 (fs hi' hp) ?_;try with_reducible exact tt
   refine AW.cond rfl (fun h=>?_) (fun h=>?_)
   ·have hbad:okK ks[i]=false→wrongM d ks=2:=by
     intro hb
     rw [wrongM,if_pos hd,if_neg]
     intro ha
     rw [List.all_eq_true] at ha
     have:=ha ks[i] (List.getElem_mem _)
     rw [hb] at this;cases this
    by_cases h0:ks[i]<0
    ·refine G1 (fs hi' (fs hp h0)) ?_;try with_reducible exact tt
     refine AW.cond rfl (fun h=>?_) (fun h=>?_)
     ·refine G0 ?_;try with_reducible exact tt
      refine Sub1.int ?_
      rw [hbad (by simp [okK];omega)]
     ·simp [h0] at h
    ·by_cases h1:1023<ks[i]
     ·refine G1 (fs hi' (fs hp (fs h0 h1))) ?_;try with_reducible exact tt
      refine AW.cond rfl (fun h=>?_) (fun h=>?_)
      ·refine G0 ?_;try with_reducible exact tt
       refine Sub1.int ?_
       rw [hbad (by simp [okK];omega)]
      ·simp [h0,h1] at h
     ·refine G1 (fs hi' (fs hp (fs h0 h1))) ?_;try with_reducible exact tt
      refine AW.cond rfl (fun h=>?_) (fun h=>?_)
      ·simp [h0,h1] at h
      have ew:IntKind.i64.wrap ((i:Int)+1)=(i:Int)+1:=w64 (by omega) (by omega)
      refine G1 ew ?_;try with_reducible exact tt
      refine ⟨i+1,⟨by omega,?_⟩,by omega,by simp⟩
      rw [List.take_add_one,List.getElem?_eq_getElem hi']
      intro x hx
      rcases List.mem_append.1 hx with hx | hx
      ·exact List.all_eq_true.1 hall x hx
      ·simp at hx
       subst hx
       simp [okK];omega
   ·simp [hi'] at h
 ·refine AW.cond rfl (fun h=>?_) (fun h=>?_)
  ·refine G0 ?_;try with_reducible exact tt
   refine Sub1.int ?_
   rw [wrongM,if_neg hd]
  ·simp at h
   exact absurd h hd

theorem o_n6 (d k:Int):Eqn Tryz.prog o_ih [.d (.int .i64 d),.d (.sl 1 [.int .i64 k])] [] (.d (.int .i64 (wrongM d [k]))) []:=o_n5 d [k] (by simp)
theorem o_n7 {d k:Int} {ks:List Int} (h:wrongM d (k::ks)=0):1≤d∧d≤4096∧0≤k∧k≤1023:=by
 unfold wrongM at h
 split at h
 ·split at h
  ·rename_i h1 h2
   simp [okK] at h2
   omega
  ·omega
 ·omega

theorem o_n8 (x:Nat):wval [x]=x:=by simp [wval]
theorem o_n9 (cs:List Bool) (a:Nat) (k:Int) (p:Nat) (dd:Bool) (h1:1≤a) (h2:a≤4096) (hk:k≤4000000) (hp:p≤cs.length) (hn:cs.length≤4000000) :
  Eqn Tryz.prog o_ik [.p 0 0,.d (.int .i64 a),.d (.int .i64 k)] [tapeO cs p dd] (.tup [.d (.bool (powerR cs a (a+1) k.toNat p dd).1),.d (.int .i64 (powerR cs a (a+1) k.toNat p dd).2.1)]) [tapeO cs (powerR cs a (a+1) k.toNat p dd).2.2.1 (powerR cs a (a+1) k.toNat p dd).2.2.2]:=by
 refine Eqn.obj1 o_im (o_lr _ _) ⟨rfl,fun _=>rfl⟩ ?_
 refine cc (c':=?z34) ?_ ?_
 case refine_1=>cbv<;>exact rfl
 have hh:=o_n2 cs a (a+1) p dd k (by omega) (by omega) (by omega) hk hp hn
 generalize powerR cs a (a+1) k.toNat p dd=R at *
 obtain ⟨R1,R2,R3,R4⟩:=R
 simp only at hh ⊢
 have e1:IntKind.u64.wrap (a:Int)=a:=wu64 (by omega) (by omega)
 have e2:IntKind.i64.wrap ((a:Int)+1)=((a+1:Nat):Int):=w64 (by omega) (by omega)
 have e3:IntKind.u64.wrap ((a+1:Nat):Int)=((a+1:Nat):Int):=wu64 (by omega) (by omega)
 obtain ⟨b,hb⟩:∃b,b=a+1:=⟨_,rfl⟩
 rw [←hb] at hh e2 e3
 refine G1B e1 ?_;try with_reducible exact tt
 refine CallS.pf 1 1 ⟨136,_⟩ [.int .u64 (a:Nat)] (o_lc [a] (o_m7 (by omega)) (by simp)) (by first | rfl | (simp [e2,e3,o_n8,-Bool.exists_bool];done)) ?_
 (try (simp -implicitDefEqProofs [e2,e3,o_n8,-Bool.exists_bool];try simp (disch:=omega) only [w64,wu64]))
 repeat (first | refine AW.seq ?_ | refine AW.block ?_ | (refine AW.reg mix ?_;simp -implicitDefEqProofs [e2,e3,o_n8,-Bool.exists_bool];try simp (disch:=omega) only [w64,wu64]) | (refine need.of (by first | omega | kernel_rfl) ?_) | (refine AW.fin ?_;try simp -implicitDefEqProofs [e2,e3,o_n8,-Bool.exists_bool]))
 refine CallS.pf 2 1 ⟨136,_⟩ [.int .u64 (b:Nat)] (o_lc [b] (o_m7 (by omega)) (by simp)) (by first | rfl | (simp [o_n8,-Bool.exists_bool];done)) ?_
 (try (simp -implicitDefEqProofs [o_n8,-Bool.exists_bool];try simp (disch:=omega) only [w64,wu64]))
 repeat (first | refine AW.seq ?_ | refine AW.block ?_ | (refine AW.reg mix ?_;simp -implicitDefEqProofs [o_n8,-Bool.exists_bool];try simp (disch:=omega) only [w64,wu64]) | (refine need.of (by first | omega | kernel_rfl) ?_) | (refine AW.fin ?_;try simp -implicitDefEqProofs [o_n8,-Bool.exists_bool]))
 refine CallS.o1 0 (hh) (R0B ?_);try with_reducible exact tt

def stepM (cs:List Bool) (d k:Int) (p:Nat) (dd:Bool):Bool×Int×Nat×Bool:=if wrongM d [k]=0 then powerR cs d.toNat (d.toNat+1) k.toNat p dd else (false,wrongM d [k],p,dd)

theorem o_na (cs:List Bool) (d k:Int) (p:Nat) (dd:Bool) (hp:p≤cs.length) (hn:cs.length≤4000000) :
  Eqn Tryz.prog o_ie [.p 0 0,.d (.int .i64 d),.d (.int .i64 k)] [tapeO cs p dd] (.tup [.d (.bool (stepM cs d k p dd).1),.d (.int .i64 (stepM cs d k p dd).2.1)]) [tapeO cs (stepM cs d k p dd).2.2.1 (stepM cs d k p dd).2.2.2]:=by
 refine Eqn.obj1 o_ig (o_lr _ _) ⟨rfl,fun _=>rfl⟩ ?_
 refine cc (c':=?z35) ?_ ?_
 case refine_1=>cbv<;>exact rfl
 refine G0B ?_;try with_reducible exact tt
 refine CallS.pf 1 1 ⟨3,_⟩ [.int .i64 k] (o_n6 d k) (by first | rfl | (simp [-Bool.exists_bool];done)) (R0B ?_);try with_reducible exact tt
 by_cases h:wrongM d [k]=0
 ·obtain ⟨h1,h2,h3,h4⟩:=o_n7 h
  obtain ⟨d,rfl⟩:∃n:Nat,d=n:=⟨d.toNat,by omega⟩
  rw [stepM,if_pos h]
  have hh:=o_n9 cs d k p dd (by omega) (by omega) (by omega) hp hn
  simp only [Int.toNat_natCast]
  generalize powerR cs d (d+1) k.toNat p dd=R at *
  obtain ⟨R1,R2,R3,R4⟩:=R
  simp only at hh ⊢
  refine AW.cond rfl (fun h=>?_) (fun h=>?_)
  ·simp [*] at h
  clear h
  refine G0B ?_;try with_reducible exact tt
  refine CallS.o1 0 (hh) (R0B ?_);try with_reducible exact tt
 ·rw [stepM,if_neg h]
  refine AW.cond rfl (fun h=>?_) (fun h=>?_)
  ·refine G0B ?_;try with_reducible exact tt
  ·simp [*] at h
end
section
open Go.RowKit
theorem o_nb : MethOK Tryz.prog 150 "tallymark/chain.good" o_hz := fun v w => by kernel_rfl
theorem o_nc : MethOK Tryz.prog 151 "tallymark/chain.good" o_j8 := fun v w => by kernel_rfl
theorem o_nd : MethOK Tryz.prog 152 "tallymark/chain.good" o_k2 := fun v w => by kernel_rfl
theorem o_ne : MethOK Tryz.prog 150 "tallymark/chain.step" o_i2 := fun v w => by kernel_rfl
theorem o_nf : MethOK Tryz.prog 151 "tallymark/chain.step" o_jb := fun v w => by kernel_rfl
theorem o_ng : MethOK Tryz.prog 152 "tallymark/chain.step" o_k5 := fun v w => by kernel_rfl

theorem o_nh (a:Int):Eqn Tryz.prog o_hz [.d (.int .i64 a)] [] (.d (.bool (decide (1≤a∧a≤4096)))) []:=by
 refine Eqn.pure o_i1 (o_5e _) ?_
 refine cc (c':=?z36) ?_ ?_
 case refine_1=>cbv<;>exact rfl
 refine G0 ?_;try with_reducible exact tt
 refine CallS.pu (o_n4 a) (R0 ?_);try with_reducible exact tt
theorem o_ni (a:Int):Eqn Tryz.prog o_j8 [.d (.int .i64 a)] [] (.d (.bool (decide (0≤a∧a≤8)))) []:=by
 refine Eqn.pure o_ja (o_5e _) ?_
 refine cc (c':=?z37) ?_ ?_
 case refine_1=>cbv<;>exact rfl
 refine G0 ?_;try with_reducible exact tt
 refine CallS.pu (o_mr a) (R0 ?_);try with_reducible exact tt

def kindD (k a:Int):D:=if k=1 then .ifc 150 (.int .i64 a) else if k=2 then .ifc 151 (.int .i64 a) else if k=3 then .ifc 152 (.int .i64 a) else .nilifc
theorem o_nj (k a w:Int):Eqn Tryz.prog o_ca [.d (.agg [.int .i64 k,.int .i64 a,.int .i64 w])] [] (.d (kindD k a)) []:=by
 refine Eqn.pure o_cc (o_5e _) ?_
 refine cc (c':=?z38) ?_ ?_
 case refine_1=>cbv<;>exact rfl
 try simp only [kindD]
 refine G0 ?_;try with_reducible exact tt
 refine AW.cond rfl (fun h=>?_) (fun h=>?_)
 ·have hk:k=1:=by simpa using h
  subst hk
  refine G0 ?_;try with_reducible exact tt
 have h1:¬k=1:=by simpa using h
 clear h
 refine G1 h1 ?_;try with_reducible exact tt
 refine AW.cond rfl (fun h=>?_) (fun h=>?_)
 ·have hk:k=2:=by simpa using h
  subst hk
  refine G0 ?_;try with_reducible exact tt
 have h2:¬k=2:=by simpa using h
 clear h
 refine G1 (fs h1 h2) ?_;try with_reducible exact tt
 refine AW.cond rfl (fun h=>?_) (fun h=>?_)
 ·have hk:k=3:=by simpa using h
  subst hk
  refine G0 ?_;try with_reducible exact tt
 have h3:¬k=3:=by simpa using h
 clear h
 refine G1 (fs h1 (fs h2 h3)) ?_;try with_reducible exact tt
end
section
def bitsN (n:Nat):Nat:=if n=0 then 0 else Nat.log2 n+1
theorem o_nk (n:Nat):n<2^bitsN n:=by
 unfold bitsN
 split
 ·omega
 ·exact Nat.lt_log2_self
theorem o_nl {n k:Nat} (h:n<2^k):bitsN n≤k:=by
 unfold bitsN
 split
 ·omega
 ·rename_i h0
  have:=(Nat.log2_lt h0).2 h
  omega
def moreY (s t:Nat):Nat:=t+(if t/2^s*2^s<t then t/2^s+1 else t/2^s)
def shiftY (s t:Nat):Nat:=bitsN t-1-2*s
structure Pl where
 x:Nat
 shift:Nat
 value:Nat
 reply:Nat
def nextY (s:Nat) (p:Pl):Pl:=if p.reply≤p.value+2^p.shift then ⟨p.x+1,shiftY s (moreY s p.reply),p.value+2^p.shift,moreY s p.reply⟩ else ⟨p.x,p.shift,p.value+2^p.shift,p.reply⟩
def placeY (s:Nat):Nat→Pl
 | 0=>⟨0,0,0,2^(2*s)⟩
 | k+1=>nextY s (placeY s k)

theorem o_nm {n k:Nat} (h:2^k≤n):bitsN n=k+bitsN (n/2^k):=by
 have hp:=Nat.two_pow_pos k
 have hq:0<n/2^k:=Nat.div_pos h hp
 have h1:=o_nk (n/2^k)
 have h2:2^(bitsN (n/2^k)-1)≤n/2^k:=by
  unfold bitsN
  rw [if_neg (by omega),Nat.add_sub_cancel]
  exact Nat.log2_self_le (by omega)
 have h3:0<bitsN (n/2^k):=by unfold bitsN;rw [if_neg (by omega)];omega
 apply Nat.le_antisymm
 ·apply o_nl
  rw [Nat.pow_add,Nat.mul_comm]
  exact (Nat.div_lt_iff_lt_mul hp).1 h1
 ·apply Nat.le_of_not_lt
  intro hlt
  have h4:=o_nk n
  have h5:2^bitsN n≤2^(k+(bitsN (n/2^k)-1)):=Nat.pow_le_pow_right (by omega) (by omega)
  rw [Nat.pow_add] at h5
  have h6:2^k*2^(bitsN (n/2^k)-1)≤n:=by
   rw [Nat.mul_comm];exact Nat.le_trans (Nat.mul_le_mul_right _ h2) (Nat.div_mul_le_self _ _)
  omega
theorem o_nn {n:Nat} (h:0<n):2^(bitsN n-1)≤n∧0<bitsN n:=by
 unfold bitsN
 rw [if_neg (by omega),Nat.add_sub_cancel]
 exact ⟨Nat.log2_self_le (by omega),by omega⟩

theorem o_no {s t:Nat} (hs:1≤s) (ht:2≤t):moreY s t≤2*t:=by
 unfold moreY
 have h2:2≤2^s:=by
  calc 2=2^1:=by decide
   _≤2^s:=Nat.pow_le_pow_right (by decide) hs
 have h1:t/2^s≤t/2:=Nat.div_le_div_left h2 (by decide)
 split<;>omega

theorem o_np {s:Nat} (hs:1≤s):∀k,4≤(placeY s k).reply∧(placeY s k).reply≤2^(2*s+k)∧(placeY s k).shift≤2*s+k∧(placeY s k).value≤k*2^(2*s+k)∧(placeY s k).x≤k:=by
 intro k
 induction k with
 | zero =>
  simp only [placeY]
  have:2^2≤2^(2*s):=Nat.pow_le_pow_right (by decide) (by omega)
  rw [Nat.add_zero]
  omega
 | succ k ih =>
  obtain ⟨h1,h2,h3,h4,h5⟩:=ih
  have hp:2^(2*s+(k+1))=2*2^(2*s+k):=by rw [show 2*s+(k+1)=2*s+k+1 by omega,Nat.pow_succ];omega
  have hm:=o_no hs (show 2≤(placeY s k).reply by omega)
  have hm4:(placeY s k).reply≤moreY s (placeY s k).reply:=by unfold moreY;omega
  have hsh:2^(placeY s k).shift≤2^(2*s+k):=Nat.pow_le_pow_right (by decide) h3
  have hv:(placeY s k).value+2^(placeY s k).shift≤(k+1)*2^(2*s+(k+1)):=by
   rw [hp,Nat.add_mul,Nat.one_mul,Nat.mul_left_comm]
   generalize 2^(2*s+k)=P at *
   generalize k*P=Q at *
   omega
  have hb:bitsN (moreY s (placeY s k).reply)≤2*s+(k+1)+1:=o_nl (by
   rw [Nat.pow_succ,hp]
   have:0<2^(2*s+k):=Nat.pow_pos (by decide)
   omega)
  simp only [placeY,nextY]
  split
  ·refine ⟨by simp only;omega,by simp only;omega,?_,hv,by simp only;omega⟩
   simp only [shiftY]
   omega
  ·refine ⟨by simp only;omega,by simp only;omega,by simp only;omega,hv,by simp only;omega⟩
end
section
set_option maxRecDepth 10000
theorem o_nq {y1 y0 u u1 q r:Nat} (e:q*y1+r=u) (hle:q*y0≤r*4294967296+u1) (hgt:u*4294967296+u1<(q+1)*(y1*4294967296+y0)) :
  (u*4294967296+u1)/(y1*4294967296+y0)=q:=by
 have h1:q*(y1*4294967296+y0)≤u*4294967296+u1:=by
  rw [Nat.mul_add,←Nat.mul_assoc,←e,Nat.add_mul]
  omega
 have hpos:0<y1*4294967296+y0:=by
  rcases Nat.eq_zero_or_pos (y1*4294967296+y0) with h | h
  ·rw [h] at hgt;omega
  ·exact h
 exact Nat.div_eq_of_lt_le h1 hgt
theorem lin (a r u u1 b z:Nat) (e:a+r=u) (hc:r*b+u1<z):u*b+u1<a*b+z:=by
 subst e;rw [Nat.add_mul];omega
theorem o_nr {y1 y0 u u1 q r:Nat} (e:q*y1+r=u) (hu:u<y1*4294967296+y0) (hu1:u1<4294967296) (hc:4294967296≤q∨r*4294967296+u1<q*y0) :
  0<q∧(q-1)*y1+(r+y1)=u∧u*4294967296+u1<(q-1+1)*(y1*4294967296+y0):=by
 have hq:0<q:=by
  rcases Nat.eq_zero_or_pos q with h | h
  ·subst h;omega
  ·exact h
 have e1:(q-1)*y1+y1=q*y1:=by
  obtain ⟨k,rfl⟩:∃k,q=k+1:=⟨q-1,by omega⟩
  rw [Nat.add_sub_cancel,Nat.add_mul,Nat.one_mul]
 have e2:q-1+1=q:=by omega
 rw [e2]
 refine ⟨hq,by omega,?_⟩
 rcases hc with hc | hc
 ·have h1:(y1*4294967296+y0)*4294967296≤(y1*4294967296+y0)*q:=Nat.mul_le_mul_left _ hc
  rw [Nat.mul_comm q]
  obtain ⟨p,hp⟩:∃p,p=(y1*4294967296+y0)*q:=⟨_,rfl⟩
  rw [←hp] at h1 ⊢
  clear hp e1
  omega
 ·rw [Nat.mul_add,←Nat.mul_assoc]
  obtain ⟨a,ha⟩:∃a,a=q*y1:=⟨_,rfl⟩
  rw [←ha] at e ⊢
  exact lin a r u u1 _ _ e hc
theorem o_ns {y1 y0 u q r:Nat} (e:q*y1+r=u) (hu:u<y1*4294967296+y0) (hy0:y0<4294967296) (hr:4294967296≤r) (u1:Nat):q*y0≤r*4294967296+u1:=by
 have hq:q<4294967296:=by
  apply Nat.lt_of_not_le
  intro h
  have:4294967296*y1≤q*y1:=Nat.mul_le_mul_right y1 h
  omega
 have:q*y0≤4294967295*4294967295:=Nat.mul_le_mul (by omega) (by omega)
 omega
theorem o_nt {y1 y0 u u1:Nat} (h1:0<y1) (hu1:u1<4294967296):u*4294967296+u1<(u/y1+1)*(y1*4294967296+y0):=by
 have h:=Nat.lt_mul_div_succ u h1
 rw [Nat.mul_comm] at h
 have h2:(u/y1+1)*(y1*4294967296)≤(u/y1+1)*(y1*4294967296+y0):=Nat.mul_le_mul_left _ (by omega)
 rw [←Nat.mul_assoc] at h2
 generalize (u/y1+1)*y1=a at *
 omega

theorem halves' {y a b v0 q1 q0:Nat} (hy:0<y) (h1:a/y=q1) (h0:((a-q1*y)*b+v0)/y=q0) :
  (a*b+v0)/y=q1*b+q0∧(a*b+v0)%y=(a-q1*y)*b+v0-q0*y:=by
 have a1:=Nat.div_add_mod a y
 have b1:=Nat.mod_lt a hy
 rw [h1,Nat.mul_comm] at a1
 obtain ⟨r1,hr1⟩:∃r,r=a%y:=⟨_,rfl⟩
 rw [←hr1] at a1 b1
 have e1:a-q1*y=r1:=by omega
 rw [e1] at h0 ⊢
 have a0:=Nat.div_add_mod (r1*b+v0) y
 have b0:=Nat.mod_lt (r1*b+v0) hy
 rw [h0,Nat.mul_comm] at a0
 obtain ⟨r0,hr0⟩:∃r,r=(r1*b+v0)%y:=⟨_,rfl⟩
 rw [←hr0] at a0 b0
 have e0:r1*b+v0-q0*y=r0:=by omega
 rw [e0]
 have hN:a*b+v0=(q1*b+q0)*y+r0:=by
  have hp:q1*b*y=q1*y*b:=Nat.mul_right_comm _ _ _
  rw [Nat.add_mul,hp,←a1,Nat.add_mul]
  omega
 rw [hN]
 exact ⟨by rw [Nat.mul_comm,Nat.mul_add_div hy,Nat.div_eq_of_lt b0,Nat.add_zero],by rw [Nat.mul_comm,Nat.mul_add_mod];exact Nat.mod_eq_of_lt b0⟩

theorem o_nu {n y s:Nat}:n*2^s/(y*2^s)=n/y∧n*2^s%(y*2^s)/2^s=n%y:=by
 have hp:=Nat.two_pow_pos s
 refine ⟨Nat.mul_div_mul_right _ _ hp,?_⟩
 rw [Nat.mul_mod_mul_right,Nat.mul_div_cancel _ hp]

theorem o_nv {U D B P u1 d1:Nat} (hB:0<B) (hP:0<P) (hU:U/P=u1) (hD:d1*P≤D) (hd:0<d1):U/D≤u1/d1:=by
 rw [Nat.le_div_iff_mul_le hd]
 have hD0:0<D:=Nat.lt_of_lt_of_le (Nat.mul_pos hd hP) hD
 have h1:U/D*D≤U:=Nat.div_mul_le_self U D
 rw [←hU,Nat.le_div_iff_mul_le hP]
 calc U/D*d1*P=U/D*(d1*P):=Nat.mul_assoc _ _ _
  _≤U/D*D:=Nat.mul_le_mul_left _ hD
  _≤U:=h1

theorem o_nw {U D g w P M:Nat} (hM:M=18446744073709551616*P) (hD:D<P) (hD0:0<D) (hg:g≤18446744073709551615) (hw:w<M) (e:w+g*D=U+M) :
  0<g∧(M≤w+D→w+D-M+(g-1)*D=U∧w+D-M<D∧U/D=g-1∧U%D=w+D-M)∧(w+D<M→w+D+(g-1)*D=U+M∧P≤w+D):=by
 have hg0:0<g:=by
  rcases Nat.eq_zero_or_pos g with h | h
  ·subst h;omega
  ·exact h
 have e1:(g-1)*D+D=g*D:=by
  obtain ⟨k,rfl⟩:∃k,g=k+1:=⟨g-1,by omega⟩
  rw [Nat.add_sub_cancel,Nat.add_mul,Nat.one_mul]
 have e2:(g-1)*D≤18446744073709551614*P:=Nat.mul_le_mul (by omega) (by omega)
 obtain ⟨x,hx⟩:∃x,x=(g-1)*D:=⟨_,rfl⟩
 obtain ⟨y,hy⟩:∃y,y=g*D:=⟨_,rfl⟩
 refine ⟨hg0,fun h=>?_,fun h=>?_⟩
 ·have h1:w+D-M+(g-1)*D=U:=by rw [←hx] at e1 ⊢;rw [←hy] at e e1;clear hx hy e2;omega
  have h2:w+D-M<D:=by omega
  refine ⟨h1,h2,?_,?_⟩
  ·rw [←h1,Nat.add_mul_div_right _ _ hD0,Nat.div_eq_of_lt h2,Nat.zero_add]
  ·rw [←h1,Nat.add_mul_mod_self_right];exact Nat.mod_eq_of_lt h2
 ·rw [←hx] at e1 e2 ⊢;rw [←hy] at e e1
  clear hx hy
  subst hM
  constructor
  ·omega
  ·omega
theorem o_nx {U D g w:Nat} (hD0:0<D) (hg:U/D≤g) (e:w+g*D=U):U/D=g∧U%D=w:=by
 have h:g≤U/D:=by rw [Nat.le_div_iff_mul_le hD0];omega
 have hq:U/D=g:=Nat.le_antisymm hg h
 have:=Nat.div_add_mod U D
 rw [hq,Nat.mul_comm] at this
 exact ⟨hq,by omega⟩

def shrL (k:Nat):List Nat→List Nat
 | []=>[]
 | x::l=>(x/2^k+l.getD 0 0*2^(64-k)%18446744073709551616)::shrL k l
theorem o_ny (k:Nat):∀l,(shrL k l).length=l.length
 | []=>rfl
 | x::l=>by simp [shrL,o_ny k l]
theorem o_nz:∀l:List Nat,small l→wval l%18446744073709551616=l.getD 0 0
 | [],_=>rfl
 | x::l,h=>by
  have:=h x (by simp)
  simp only [wval,List.getD_cons_zero]
  omega
theorem o_o0 {k:Nat} (hk:k<64):∀l:List Nat,small l→wval (shrL k l)=wval l/2^k∧small (shrL k l)
 | [],_=>⟨by simp [shrL,wval],by simp [shrL,small]⟩
 | x::l,h=>by
  have hl:small l:=fun y hy=>h y (by simp [hy])
  obtain ⟨h1,h2⟩:=o_o0 hk l hl
  have hx:=h x (by simp)
  have hhd:=o_nz l hl
  have hB:(18446744073709551616:Nat)=2^k*2^(64-k):=by rw [←Nat.pow_add,show k+(64-k)=64 by omega]
  have hp:=Nat.two_pow_pos k
  have hp':=Nat.two_pow_pos (64-k)
  -- the part that comes from above
  have h3:l.getD 0 0*2^(64-k)%18446744073709551616=wval l%2^k*2^(64-k):=by
   rw [hB,Nat.mul_mod_mul_right,←hhd]
   congr 1
   rw [hB,Nat.mod_mul_right_mod]
  have h4:wval (x::l)/2^k=x/2^k+2^(64-k)*wval l:=by
   rw [wval]
   conv=>lhs;rw [hB]
   rw [Nat.mul_assoc,Nat.add_mul_div_left _ _ hp]
  have h5:2^(64-k)*wval l=18446744073709551616*(wval l/2^k)+wval l%2^k*2^(64-k):=by
   conv=>lhs;rw [←Nat.div_add_mod (wval l) (2^k)]
   rw [Nat.mul_add,←Nat.mul_assoc,Nat.mul_comm (2^(64-k)) (2^k),←hB,Nat.mul_comm (2^(64-k))]
  have h6:x/2^k<2^(64-k):=by
   rw [Nat.div_lt_iff_lt_mul hp,Nat.mul_comm,←hB];exact hx
  have h7:wval l%2^k*2^(64-k)+2^(64-k)≤18446744073709551616:=by
   have:=Nat.mul_le_mul_right (2^(64-k)) (Nat.succ_le_of_lt (Nat.mod_lt (wval l) hp))
   rw [Nat.succ_mul,←hB] at this
   exact this
  refine ⟨?_,?_⟩
  ·rw [h4,h5,shrL,wval,h1,h3]
   omega
  ·intro y hy
   rw [shrL,List.mem_cons] at hy
   rcases hy with rfl | hy
   ·rw [h3];omega
   ·exact h2 y hy
theorem o_o1:∀(q:Nat) (l:List Nat),small l→wval (l.drop q)=wval l/18446744073709551616^q
 | 0,l,_=>by simp
 | q+1,[],_=>by simp [wval]
 | q+1,x::l,h=>by
  have hx:=h x (by simp)
  rw [List.drop_succ_cons,o_o1 q l (fun y hy=>h y (by simp [hy])),wval,Nat.pow_succ,Nat.mul_comm (18446744073709551616^q),←Nat.div_div_eq_div_mul]
  congr 1
  omega
end
section
open Go.RowKit
theorem o_o2:∀i:Nat,i<256→(([0,1,2,2,3,3,3,3,4,4,4,4,4,4,4,4,5,5,5,5,5,5,5,5,5,5,5,5,5,5,5,5,6,6,6,6,6,6,6,6,6,6,6,6,6,6,6,6,6,6,6,6,6,6,6,6,6,6,6,6,6,6,6,6,7,7,7,7,7,7,7,7,7,7,7,7,7,7,7,7,7,7,7,7,7,7,7,7,7,7,7,7,7,7,7,7,7,7,7,7,7,7,7,7,7,7,7,7,7,7,7,7,7,7,7,7,7,7,7,7,7,7,7,7,7,7,7,7,8,8,8,8,8,8,8,8,8,8,8,8,8,8,8,8,8,8,8,8,8,8,8,8,8,8,8,8,8,8,8,8,8,8,8,8,8,8,8,8,8,8,8,8,8,8,8,8,8,8,8,8,8,8,8,8,8,8,8,8,8,8,8,8,8,8,8,8,8,8,8,8,8,8,8,8,8,8,8,8,8,8,8,8,8,8,8,8,8,8,8,8,8,8,8,8,8,8,8,8,8,8,8,8,8,8,8,8,8,8,8,8,8,8,8,8,8,8,8,8,8,8,8,8,8,8,8,8]:List UInt8)[i]?.getD 0).toNat=bitsN i:=by
 have h:((List.range 256).all fun i=>(([0,1,2,2,3,3,3,3,4,4,4,4,4,4,4,4,5,5,5,5,5,5,5,5,5,5,5,5,5,5,5,5,6,6,6,6,6,6,6,6,6,6,6,6,6,6,6,6,6,6,6,6,6,6,6,6,6,6,6,6,6,6,6,6,7,7,7,7,7,7,7,7,7,7,7,7,7,7,7,7,7,7,7,7,7,7,7,7,7,7,7,7,7,7,7,7,7,7,7,7,7,7,7,7,7,7,7,7,7,7,7,7,7,7,7,7,7,7,7,7,7,7,7,7,7,7,7,7,8,8,8,8,8,8,8,8,8,8,8,8,8,8,8,8,8,8,8,8,8,8,8,8,8,8,8,8,8,8,8,8,8,8,8,8,8,8,8,8,8,8,8,8,8,8,8,8,8,8,8,8,8,8,8,8,8,8,8,8,8,8,8,8,8,8,8,8,8,8,8,8,8,8,8,8,8,8,8,8,8,8,8,8,8,8,8,8,8,8,8,8,8,8,8,8,8,8,8,8,8,8,8,8,8,8,8,8,8,8,8,8,8,8,8,8,8,8,8,8,8,8,8,8,8,8,8,8]:List UInt8)[i]?.getD 0).toNat==bitsN i)=true:=by kernel_rfl
 intro i hi
 have:=List.all_eq_true.1 h i (List.mem_range.2 hi)
 exact eq_of_beq this

set_option maxHeartbeats 1000000 in
theorem o_o3 (x:Nat) (hx:x<18446744073709551616):Eqn Tryz.prog o_h2 [.d (.int .u64 x)] [] (.d (.int .i64 (bitsN x))) []:=by
 refine Eqn.pure o_h4 (o_5e _) ?_
 refine cc (c':=?z39) ?_ ?_
 case refine_1=>cbv<;>exact rfl
 obtain ⟨x1,n1,h1,hx1,hn1,e1⟩:∃x1 n1:Nat,(x1,n1)=(if 4294967296≤x then (x/4294967296,32) else (x,0))∧x1<4294967296∧n1≤32∧bitsN x=n1+bitsN x1:=by
  by_cases h:4294967296≤x
  ·exact ⟨x/4294967296,32,by rw [if_pos h],by omega,by omega,o_nm (k:=32) h⟩
  ·exact ⟨x,0,by rw [if_neg h],by omega,by omega,by omega⟩
 obtain ⟨x2,n2,h2,hx2,hn2,e2⟩:∃x2 n2:Nat,(x2,n2)=(if 65536≤x1 then (x1/65536,n1+16) else (x1,n1))∧x2<65536∧n2≤48∧bitsN x=n2+bitsN x2:=by
  by_cases h:65536≤x1
  ·exact ⟨x1/65536,n1+16,by rw [if_pos h],by omega,by omega,by have:=o_nm (k:=16) h;rw [e1,this];simp;omega⟩
  ·exact ⟨x1,n1,by rw [if_neg h],by omega,by omega,by omega⟩
 obtain ⟨x3,n3,h3,hx3,hn3,e3⟩:∃x3 n3:Nat,(x3,n3)=(if 256≤x2 then (x2/256,n2+8) else (x2,n2))∧x3<256∧n3≤56∧bitsN x=n3+bitsN x3:=by
  by_cases h:256≤x2
  ·exact ⟨x2/256,n2+8,by rw [if_pos h],by omega,by omega,by have:=o_nm (k:=8) h;rw [e2,this];simp;omega⟩
  ·exact ⟨x2,n2,by rw [if_neg h],by omega,by omega,by omega⟩
 rw [e3]
 clear e1 e2 e3
 refine AW.seq (AW.reg mix ?_)
 (simp -implicitDefEqProofs;try simp (disch:=omega) only [w64,wu64])
 refine AW.cut 0 [(0,.d (.int .u64 x1)),(2,.d (.int .i64 n1))] [] (by simp) (by simp) ?_ ?_
 ·have hd:(x:Int)/4294967296=(x/4294967296:Nat):=rfl
  refine G0 ?_;try with_reducible exact tt
  refine AW.cond rfl (fun h=>?_) (fun h=>?_)
  ·rw [if_pos (by simp at h;omega)] at h1
   cases h1
   generalize x/4294967296=q at *
   refine G1 hd ?_;try with_reducible exact tt
  ·rw [if_neg (by simp at h;omega)] at h1
   cases h1
   refine G0 ?_;try with_reducible exact tt
 clear h1 hx
 simp
 refine AW.cut 0 [(0,.d (.int .u64 x2)),(2,.d (.int .i64 n2))] [] (by simp) (by simp) ?_ ?_
 ·have hd:(x1:Int)/65536=(x1/65536:Nat):=rfl
  have ew:IntKind.i64.wrap ((n1:Int)+16)=((n1+16:Nat):Int):=w64 (by omega) (by omega)
  refine G0 ?_;try with_reducible exact tt
  refine AW.cond rfl (fun h=>?_) (fun h=>?_)
  ·rw [if_pos (by simp at h;omega)] at h2
   cases h2
   generalize x1/65536=q at *
   refine G1 (fs hd ew) ?_;try with_reducible exact tt
  ·rw [if_neg (by simp at h;omega)] at h2
   cases h2
   refine G0 ?_;try with_reducible exact tt
 clear h2 hx1 hn1
 simp
 refine AW.cut 0 [(0,.d (.int .u64 x3)),(2,.d (.int .i64 n3))] [] (by simp) (by simp) ?_ ?_
 ·have hd:(x2:Int)/256=(x2/256:Nat):=rfl
  have ew:IntKind.i64.wrap ((n2:Int)+8)=((n2+8:Nat):Int):=w64 (by omega) (by omega)
  refine G0 ?_;try with_reducible exact tt
  refine AW.cond rfl (fun h=>?_) (fun h=>?_)
  ·rw [if_pos (by simp at h;omega)] at h3
   cases h3
   generalize x2/256=q at *
   refine G1 (fs hd ew) ?_;try with_reducible exact tt
  ·rw [if_neg (by simp at h;omega)] at h3
   cases h3
   refine G0 ?_;try with_reducible exact tt
 clear h3 hx2 hn2
 simp
 have ew1:IntKind.u8.wrap (x3:Int)=x3:=by rw [show IntKind.u8.wrap (x3:Int)=(x3:Int)%256 from rfl];omega
 have hb:=o_o2 x3 hx3
 have hB:bitsN x3≤8:=o_nl (by omega)
 have ew2:IntKind.i64.wrap (bitsN x3:Int)=bitsN x3:=w64 (by omega) (by omega)
 have ew3:IntKind.i64.wrap ((n3:Int)+bitsN x3)=(n3:Int)+bitsN x3:=w64 (by omega) (by omega)
 refine AW.seq (AW.reg mix ?_)
 simp [ew1,hb,ew2,ew3]
 refine need.of (Nat.lt_of_lt_of_le hx3 (by decide)) ?_
 refine G0 ?_;try with_reducible exact tt

theorem o_o4 (x:Nat) (hx:x<18446744073709551616):Eqn Tryz.prog o_hb [.d (.int .u64 x)] [] (.d (.int .i64 (64-bitsN x:Nat))) []:=by
 refine Eqn.pure o_hd (o_5e _) ?_
 refine cc (c':=?z40) ?_ ?_
 case refine_1=>cbv<;>exact rfl
 have hB:bitsN x≤64:=o_nl (by omega)
 refine G0 ?_;try with_reducible exact tt
 refine CallS.pu (o_o3 x hx) (R0 ?_);try with_reducible exact tt
 exact Sub1.int (by omega)

theorem o_o5 {l:List Nat} {x:Nat} (hs:small l) (h0:0<x):bitsN (wval (l++[x]))=64*l.length+bitsN x:=by
 have hp:(18446744073709551616:Nat)^l.length=2^(64*l.length):=by rw [show (18446744073709551616:Nat)=2^64 by rfl,←Nat.pow_mul]
 have hlt:=o_6u hs
 have hv:wval (l++[x])=wval l+2^(64*l.length)*x:=by rw [o_6s,hp];simp [wval]
 rw [hp] at hlt
 rw [hv,o_nm (k:=64*l.length) (by have:=Nat.le_mul_of_pos_right (2^(64*l.length)) h0;omega),Nat.add_mul_div_left _ _ (Nat.two_pow_pos _),Nat.div_eq_of_lt hlt,Nat.zero_add]

theorem o_o6 (n:Nat) (hn:size n≤1000000):Eqn Tryz.prog o_hq [.d (.agg [natW n])] [] (.d (.int .i64 (bitsN n))) []:=by
 refine Eqn.pure o_hs (o_5e _) ?_
 refine cc (c':=?z41) ?_ ?_
 case refine_1=>cbv<;>exact rfl
 try simp only [natW,W]
 unfold size at hn
 have hs:=o_l4 n
 have ht:=o_l5 n
 have hv:=o_l3 n
 generalize words n=ws at *
 rcases List.eq_nil_or_concat ws with rfl | ⟨l,x,rfl⟩
 ·refine G0 ?_;try with_reducible exact tt
  refine AW.cond rfl (fun h=>?_) (fun h=>?_)
  ·refine G0 ?_;try with_reducible exact tt
   rw [←hv]
   exact Sub1.refl _
  ·simp at h
 ·rw [List.concat_eq_append] at *
  have hx0:0<x:=by
   have:=ht l.length (by simp)
   simp [List.getD] at this
   omega
  have hx:x<18446744073709551616:=hs x (by simp)
  have hb:=o_o5 (l:=l) (x:=x) (fun y hy=>hs y (by simp [hy])) hx0
  rw [hv] at hb
  have hB:bitsN x≤64:=o_nl (by omega)
  have hll:l.length≤1000000:=by simp at hn;omega
  have e1:IntKind.i64.wrap ((l.length:Int)+1-1)=(l.length:Int):=by rw [Int.add_sub_cancel];exact w64 (by omega) (by omega)
  have e2:IntKind.i64.wrap ((64:Int)*l.length)=((64*l.length:Nat):Int):=w64 (by omega) (by omega)
  have e0:IntKind.i64.wrap (l.length:Int)=(l.length:Int):=w64 (by omega) (by omega)
  have hne:¬(l.length:Int)+1=0:=by omega
  refine G1 (fs hne (fs e1 (fs e2 e0))) ?_;try with_reducible exact tt
  refine AW.cond rfl (fun h=>?_) (fun h=>?_)
  ·simp at h
   omega
  rw [hb]
  have e3:IntKind.i64.wrap (((64*l.length:Nat):Int)+bitsN x)=((64*l.length+bitsN x:Nat):Int):=w64 (by omega) (by omega)
  generalize 64*l.length=q at *
  refine G1 (fs hne (fs e1 (fs e2 e0))) ?_;try with_reducible exact tt
  refine CallS.pu (o_o3 x hx) (R1 e3 ?_);try with_reducible exact tt

theorem o_o7 (n:Nat) (l:List D) (hl:l.length=n) (h0:0<n) (hn:n≤4000000000):Eqn Tryz.prog o_gh [.d (.sl n l)] [] (.own 0 1 n) [⟨136,l.map .d⟩]:=by
 refine Eqn.newX o_gj rfl (o_5m _) (fun n=>rfl) ?_
 refine cc (c':=?z42) ?_ ?_
 case refine_1=>cbv<;>exact rfl
 refine G1 h0 ?_;try with_reducible exact tt
 refine AW.cond rfl (fun h=>?_) (fun h=>?_)
 ·simp at h
 ·refine G0 ?_;try with_reducible exact tt
  have h1:¬n=0:=by omega
  simp [h1,hl]
  refine need.of (by omega) ?_
  refine G0 ?_;try with_reducible exact tt
  exact ⟨0,Sub1.refl _,_,rfl,rfl,Subs.refl _⟩

def shrI (k:Nat) (A:List Nat) (i:Nat):List Nat:=(shrL k A).take i++A.drop i
theorem o_o8 (k:Nat):∀(A:List Nat) (i:Nat),i<A.length→(shrL k A).getD i 0=A.getD i 0/2^k+A.getD (i+1) 0*2^(64-k)%18446744073709551616
 | [],i,h=>by simp at h
 | x::l,0,h=>by simp [shrL]
 | x::l,i+1,h=>by
  have:=o_o8 k l i (by simpa using h)
  simpa [shrL] using this
theorem o_o9 (k:Nat) (A:List Nat) (i:Nat) (h:i≤A.length):(shrI k A i).length=A.length:=by
 rw [shrI,List.length_append,List.length_take,o_ny,List.length_drop];omega
theorem o_oa (k:Nat) (A:List Nat) (i j:Nat) (h:i≤j) (hj:j<A.length):(shrI k A i)[j]?=some (A.getD j 0):=by
 rw [shrI,List.getElem?_append_right (by rw [List.length_take,o_ny];omega),List.length_take,o_ny,List.getElem?_drop,show i+(j-min i A.length)=j by omega]
 simp [List.getD,hj]
theorem o_ob (k:Nat) (A:List Nat) (i:Nat) (h:i<A.length) (y:Nat) (hy:y=(shrL k A).getD i 0):(shrI k A i).set i y=shrI k A (i+1):=by
 have hi:((shrL k A).take i).length=i:=by rw [List.length_take,o_ny];omega
 rw [shrI,shrI,List.set_append_right _ _ (by omega),hi,Nat.sub_self,o_6v _ _ (by rw [o_ny];exact h),←hy,List.append_assoc]
 congr 1
 rw [List.drop_eq_getElem_cons h]
 rfl
theorem o_oc (k:Nat) (A:List Nat):shrI k A A.length=shrL k A:=by
 rw [shrI,List.drop_length,List.append_nil,List.take_of_length_le (by rw [o_ny];omega)]

theorem o_od {k x y:Nat} (hk:k<64) (hx:x<18446744073709551616):x/2^k ||| (y*2^(64-k)%18446744073709551616)=x/2^k+y*2^(64-k)%18446744073709551616:=by
 have hB:(18446744073709551616:Nat)=2^k*2^(64-k):=by rw [←Nat.pow_add,show k+(64-k)=64 by omega]
 have h6:x/2^k<2^(64-k):=by
  rw [Nat.div_lt_iff_lt_mul (Nat.two_pow_pos k),Nat.mul_comm,←hB];exact hx
 have e:y*2^(64-k)%18446744073709551616=2^(64-k)*(y%2^k):=by rw [hB,Nat.mul_mod_mul_right,Nat.mul_comm]
 rw [e,Nat.or_comm,←Nat.two_pow_add_eq_or_of_lt h6,Nat.add_comm]

set_option maxHeartbeats 2000000 in
theorem o_oe (a n:Nat) (ha:size a≤1000000) (hn:n≤1000000000):Eqn Tryz.prog o_hk [.d (.agg [natW a]),.d (.int .i64 n)] [] (.d (.agg [natW (a/2^n)])) []:=by
 refine Eqn.pure o_hm (o_5e _) ?_
 refine cc (c':=?z43) ?_ ?_
 case refine_1=>cbv<;>exact rfl
 rw [show natW a = .sl (words a).length ((words a).map fun x:Nat=>.int .u64 x) from rfl]
 unfold size at ha
 have hs:=o_l4 a
 have hv:=o_l3 a
 generalize words a=ws at *
 have hm:max 0 (n:Int)=n:=by omega
 have hq:(n:Int)/64=(n/64:Nat):=rfl
 have hr:(n:Int).tmod 64=(n%64:Nat):=by rw [Int.tmod_eq_emod_of_nonneg (by omega)];rfl
 have hval:wval (shrL (n%64) (ws.drop (n/64)))=a/2^n∧small (shrL (n%64) (ws.drop (n/64))):=by
  obtain ⟨h1,h2⟩:=o_o0 (k:=n%64) (by omega) (ws.drop (n/64)) (fun x hx=>hs x (List.mem_of_mem_drop hx))
  refine ⟨?_,h2⟩
  rw [h1,o_o1 _ _ hs,hv,show (18446744073709551616:Nat)=2^64 by rfl,←Nat.pow_mul,Nat.div_div_eq_div_mul,←Nat.pow_add,Nat.div_add_mod]
 have hmk:n%64<64:=by omega
 have hqn:n/64≤n:=Nat.div_le_self _ _
 generalize hk:n%64=k at *
 generalize n/64=q at *
 refine G1 (fs hm hq) ?_;try with_reducible exact tt
 refine AW.cond rfl (fun h=>?_) (fun h=>?_)
 ·have hlen:ws.length≤q:=by simp at h;omega
  refine G0 ?_;try with_reducible exact tt
  rw [List.drop_of_length_le hlen] at hval
  rw [←hval.1]
  exact Sub1.nat0
 ·have hlt:q<ws.length:=by simp at h;omega
  have hlt':(q:Int)<ws.length:=by omega
  have hb1:((ws.length:Int)-q).toNat=(ws.drop q).length:=by rw [List.length_drop];omega
  have hbp:0<(ws.drop q).length∧(ws.drop q).length≤1000000:=by rw [List.length_drop];omega
  have hsB:small (ws.drop q):=fun x hx=>hs x (List.mem_of_mem_drop hx)
  have htk:(V.d (.sl ((ws.length:Int)-q).toNat (((ws.map fun x:Nat=>D.int .u64 x).drop ((q:Int)).toNat).take ((ws.length:Int)-q).toNat)):V) = .d (.sl (ws.drop q).length ((ws.drop q).map fun x:Nat=>D.int .u64 x)):=by
   rw [hb1,Int.toNat_natCast,←List.map_drop,List.take_of_length_le (by simp)]
  refine G1 (fs hm (fs hq hlt')) ?_;try with_reducible exact tt
  generalize hB:ws.drop q=B at *
  refine CallS.newX (o_o7 B.length (B.map fun x:Nat=>.int .u64 x) (by simp) hbp.1 (by omega)) (o_5m _) rfl (fun _=>rfl) (Subs.of (by rw [htk])) ?_
  rw [show ((B.map fun x:Nat=>D.int .u64 x).map V.d)=U (shrI k B 0) by simp [U,shrI]]
  simp
  refine G1 hr ?_;try with_reducible exact tt
  clear htk hb1 hv hs ha hB hlt hlt'
  refine AW.loopT (α:=Nat) 3 (fun i=>[(6,.d (.int .i64 (i:Int)))]) (fun i=>[(2,⟨136,U (shrI k B i)⟩)]) (fun i=>i≤B.length) (fun i=>B.length-i) 0 ?_ ?_ (Nat.zero_le _) ?_ ?_ ?_
  ·simp
  ·simp
  ·simp
  ·simp
  rintro i hi
  simp
  by_cases h:i=B.length
  ·subst h
   refine G0 ?_;try with_reducible exact tt
   refine AW.cond rfl (fun h=>?_) (fun h=>?_)
   ·simp at h
   refine AW.exit ?_
   (try (simp -implicitDefEqProofs;try simp (disch:=omega) only [w64,wu64]))
   rw [o_oc]
   have hl:(shrL k B).length=B.length:=o_ny k B
   have hvw:natW (a/2^n)=natW (wval (shrL k B)):=by rw [hval.1]
   rw [hvw]
   have hsm:=hval.2
   generalize shrL k B=r at hl hsm ⊢
   have hcell:U r=(r.map fun x:Nat=>D.int .u64 x).map V.d:=by simp [U]
   rw [hcell]
   refine AW.freeze 2 1 ⟨136,_⟩ (r.map fun x:Nat=>.int .u64 x) (by rfl) (by rfl) ?_
   simp [←hl,List.take_of_length_le]
   refine G0 ?_;try with_reducible exact tt
   refine CallS.pu (o_lb r hsm (by omega)) (R0 ?_);try with_reducible exact tt
  ·have hi':i<B.length:=by omega
   have hp:(i:Int)<B.length:=by omega
   have hxB:B.getD i 0<18446744073709551616:=hsB.getD i
   have hset:∀z:Nat,z=(shrL k B).getD i 0→(U (shrI k B i)).set i (.d (.int .u64 z))=U (shrI k B (i+1)):=fun z hz=>by
    rw [←o_ob k B i hi' z hz,U,U,List.map_set]
   have hg:=o_o8 k B i hi'
   have hl:(U (shrI k B i)).length=B.length:=by simp [U,o_o9 k B i hi]
   have hq1:(U (shrI k B i))[i]?=some (.d (.int .u64 (B.getD i 0:Nat))):=by
    rw [U,List.getElem?_map,o_oa k B i i (Nat.le_refl _) hi'];rfl
   have hq2:i+1<B.length→(U (shrI k B i))[i+1]?=some (.d (.int .u64 (B.getD (i+1) 0:Nat))):=fun h=>by
    rw [U,List.getElem?_map,o_oa k B i (i+1) (by omega) h];rfl
   have hor:=o_od (k:=k) (x:=B.getD i 0) (y:=B.getD (i+1) 0) hmk hxB
   rw [←hg] at hor
   have hu:((B.getD i 0:Nat):Int)/2^k=((B.getD i 0/2^k:Nat):Int):=by rw [Int.natCast_ediv,Int.natCast_pow];rfl
   have hule:B.getD i 0/2^k≤B.getD i 0:=Nat.div_le_self _ _
   have hw:IntKind.u64.wrap (((B.getD (i+1) 0:Nat):Int)*2^(64-k))=((B.getD (i+1) 0*2^(64-k)%18446744073709551616:Nat):Int):=by
    rw [IntKind.wrap_u64,Int.natCast_emod,Int.natCast_mul,Int.natCast_pow];rfl
   have hwl:B.getD (i+1) 0*2^(64-k)%18446744073709551616<18446744073709551616:=Nat.mod_lt _ (by decide)
   have hlast:¬i+1<B.length→B.getD i 0/2^k=(shrL k B).getD i 0:=fun h=>by
    rw [hg,o_lj h];simp
   have hls:(shrL k B).length=B.length:=o_ny k B
   generalize B.getD i 0/2^k=u at *
   generalize B.getD i 0=x at *
   generalize B.getD (i+1) 0*2^(64-k)%18446744073709551616=t at *
   generalize B.getD (i+1) 0=y at *
   have hb:=bits_or_u64_nat u t (by omega) hwl
   rw [hor] at hb
   have hz:=hset _ rfl
   generalize (shrL k B).getD i 0=z at *
   generalize U (shrI k B i)=cm at *
   have e1:IntKind.i64.wrap ((i:Int)+1)=(i:Int)+1:=w64 (by omega) (by omega)
   have e2:IntKind.i64.wrap ((64:Int)-k)=(64:Int)-k:=w64 (by omega) (by omega)
   have hn:((64:Int)-k).toNat=64-k:=by omega
   have e3:(((i:Int)+1)).toNat=i+1:=by omega
   have hkl:(k:Int)≤64:=by omega
   have hg1:∀h,cm[i]'h = .d (.int .u64 x):=fun h=>by
    have:=List.getElem?_eq_getElem h
    rw [hq1] at this
    exact (Option.some.inj this).symm
   have hg2:∀h,cm[i+1]'h = .d (.int .u64 y):=fun h=>by
    have:=List.getElem?_eq_getElem h
    rw [hq2 (by omega)] at this
    exact (Option.some.inj this).symm
   refine G1 (fs hi' hp) ?_;try with_reducible exact tt
   refine AW.cond rfl (fun h=>?_) (fun h=>?_)
   ·by_cases hl1:i+1<B.length
    ·have hlp:(i:Int)+1<B.length:=by omega
     refine G1 (fs hi' (fs hp (fs hl (fs hg1 (fs hu (fs e1 hlp)))))) ?_;try with_reducible exact tt
     refine AW.cond rfl (fun h=>?_) (fun h=>?_)
     ·have hne:¬i=i+1:=by omega
      have h64:(64-k:Int)≤64:=by omega
      refine G1 (fs hi' (fs hp (fs hl (fs hg1 (fs hg2 (fs hu (fs e1 (fs hlp (fs hl1 (fs e2 (fs hn (fs e3 (fs hne (fs hw (fs hb hz))))))))))))))) ?_;try with_reducible exact tt
      exact ⟨i+1,by omega,by omega,by simp,by simp⟩
     ·simp at h
    ·have hlp:¬(i:Int)+1<B.length:=by omega
     refine G1 (fs hi' (fs hp (fs hl (fs hg1 (fs hu (fs e1 hlp)))))) ?_;try with_reducible exact tt
     refine AW.cond rfl (fun h=>?_) (fun h=>?_)
     ·simp at h
     ·have:=hlast hl1
      subst this
      refine G1 e1 ?_;try with_reducible exact tt
      refine ⟨i+1,by omega,by omega,by simp,?_⟩
      rw [hset u rfl]
      exact Subs.refl _
   ·simp at h
end
section
open Go.RowKit
theorem o_of (s:Int):Eqn Tryz.prog o_ke [.d (.int .i64 s)] [] (.d (.bool (decide (1≤s∧s≤5)))) []:=by
 refine Eqn.pure o_kg (o_5e _) ?_
 refine cc (c':=?z44) ?_ ?_
 case refine_1=>cbv<;>exact rfl
 by_cases h:1≤s
 ·refine G1 h ?_;try with_reducible exact tt
 ·refine G1 h ?_;try with_reducible exact tt

theorem o_og {x m:Nat} (h:x<2^(64*m)):size x≤m:=by
 apply o_7b (o_l5 x)
 rw [o_l3,show (18446744073709551616:Nat)=2^64 by rfl,←Nat.pow_mul]
 exact h

theorem o_oh {a b m:Nat} (ha:size a≤m) (hb:size b≤m):size (a+b)≤m+1:=by
 refine o_og ?_
 have h1:=o_6u (o_l4 a)
 have h2:=o_6u (o_l4 b)
 rw [o_l3,show (18446744073709551616:Nat)=2^64 by rfl,←Nat.pow_mul] at h1 h2
 have h3:(2:Nat)^(64*(words a).length)≤2^(64*m):=Nat.pow_le_pow_right (by omega) (by unfold size at ha;omega)
 have h4:(2:Nat)^(64*(words b).length)≤2^(64*m):=Nat.pow_le_pow_right (by omega) (by unfold size at hb;omega)
 have h5:(2:Nat)^(64*(m+1))=2^(64*m)*18446744073709551616:=by rw [show 64*(m+1)=64*m+64 by omega,Nat.pow_add]
 rw [h5]
 generalize (2:Nat)^(64*m)=z at *
 omega

theorem o_oi {x n m:Nat} (h:x<2^n) (hm:n≤64*m):size x≤m :=
 o_og (Nat.lt_of_lt_of_le h (Nat.pow_le_pow_right (by omega) hm))
theorem o_oj (t:Nat):bitsN t≤64*size t:=by
 apply o_nl
 have h1:=o_6u (o_l4 t)
 rw [o_l3,show (18446744073709551616:Nat)=2^64 by rfl,←Nat.pow_mul] at h1
 exact h1
theorem o_ok (s t:Nat) (hs:s≤5) (ht:size t≤1000):Eqn Tryz.prog o_kv [.d (.int .i64 s),.d (.agg [natW t])] [] (.d (.int .i64 (shiftY s t))) []:=by
 refine Eqn.pure o_kx (o_5e _) ?_
 refine cc (c':=?z45) ?_ ?_
 case refine_1=>cbv<;>exact rfl
 have hb:=o_oj t
 refine G0 ?_;try with_reducible exact tt
 refine CallS.pu (o_o6 t (by omega)) (R0 ?_);try with_reducible exact tt
 have e1:IntKind.i64.wrap ((bitsN t:Int)-1)=(bitsN t:Int)-1:=w64 (by omega) (by omega)
 have e2:IntKind.i64.wrap (2*(s:Int))=2*(s:Int):=w64 (by omega) (by omega)
 have e3:IntKind.i64.wrap ((bitsN t:Int)-1-2*(s:Int))=(bitsN t:Int)-1-2*(s:Int):=w64 (by omega) (by omega)
 have e4:max 0 ((bitsN t:Int)-1-2*(s:Int))=(shiftY s t:Int):=by unfold shiftY;omega
 simp [e1,e2,e3,e4]

theorem o_ol (s t:Nat) (hs:s≤5) (ht:size t≤1000):Eqn Tryz.prog o_ks [.d (.int .i64 s),.d (.agg [natW t])] [] (.d (.agg [natW (moreY s t)])) []:=by
 refine Eqn.pure o_ku (o_5e _) ?_
 refine cc (c':=?z46) ?_ ?_
 case refine_1=>cbv<;>exact rfl
 have hq:=Nat.div_le_self t (2^s)
 have hq2:=Nat.div_mul_le_self t (2^s)
 have hm:moreY s t=t+(if t/2^s*2^s<t then t/2^s+1 else t/2^s):=rfl
 rw [hm]
 have s1:=o_lw hq
 have s2:=o_lw hq2
 have s1':size 1≤1:=o_md (by omega)
 refine G0 ?_;try with_reducible exact tt
 refine CallS.pu (o_oe t s (by omega) (by omega)) (R0 ?_);try with_reducible exact tt
 refine CallS.pu (o_m5 (t/2^s) s (by omega) (by omega)) (R0 ?_);try with_reducible exact tt
 generalize hQ:t/2^s=q at *
 generalize q*2^s=b at *
 refine CallS.pu (o_lf b t (by omega) (by omega)) (R0 ?_);try with_reducible exact tt
 have hb:size (q+1)≤1001:=by
  have:=o_oh (a:=q) (b:=1) (m:=1000) (by omega) (by omega)
  omega
 by_cases hlt:b<t
 ·simp only [if_pos hlt]
  refine AW.cond rfl (fun h=>?_) (fun h=>?_)
  ·refine G0 ?_;try with_reducible exact tt
   refine CallS.pf 4 1 ⟨136,_⟩ [.int .u64 (1:Nat)] (o_lc [1] (o_m7 (by omega)) (by simp)) (by first | rfl | (simp;done)) (R0 ?_);try with_reducible exact tt
   refine CallS.pu (o_lt q 1 (by omega) (by omega)) (R0 ?_);try with_reducible exact tt
   refine CallS.pu (o_lt t (q+1) (by omega) (by omega)) (R0 ?_);try with_reducible exact tt
  ·simp [o_m8,hlt] at h
 ·simp only [if_neg hlt]
  refine AW.cond rfl (fun h=>?_) (fun h=>?_)
  ·simp [o_m8,hlt] at h
  ·refine G0 ?_;try with_reducible exact tt
   refine CallS.pu (o_lt t q (by omega) (by omega)) (R0 ?_);try with_reducible exact tt

def plD (p:Pl):D:=.agg [.int .i64 p.x,.int .i64 p.shift,natW p.value,natW p.reply]

theorem o_om {s t:Nat}:moreY s t≤4*t:=by
 unfold moreY
 have h1:=Nat.div_le_self t (2^s)
 split
 ·rename_i h
  have:0<t:=by omega
  omega
 ·omega

theorem o_on (s:Nat) (p:Pl) (hs:s≤5) (hx:p.x≤100000) (h1:p.shift≤8192) (h2:size p.value≤900) (h3:size p.reply≤900) :
  Eqn Tryz.prog o_kp [.d (plD p),.d (.int .i64 s)] [] (.d (plD (nextY s p))) []:=by
 refine Eqn.pure o_kr (o_5e _) ?_
 obtain ⟨x,sh,v,r⟩:=p
 simp only at hx h1 h2 h3
 refine cc (c':=?z47) ?_ ?_
 case refine_1=>cbv<;>exact rfl
 try simp only [plD,nextY]
 have s1:size 1≤1:=o_md (by omega)
 have hsz:size (1*2^sh)≤129:=o_oi (n:=sh+1) (by rw [Nat.one_mul];exact Nat.pow_lt_pow_right (by omega) (Nat.lt_succ_self _)) (by omega)
 have hv:=o_oh (m:=900) h2 (by omega:size (1*2^sh)≤900)
 refine G0 ?_;try with_reducible exact tt
 refine CallS.pf 2 1 ⟨136,_⟩ [.int .u64 (1:Nat)] (o_lc [1] (o_m7 (by omega)) (by simp)) (by first | rfl | (simp;done)) (R0 ?_);try with_reducible exact tt
 refine CallS.pu (o_m5 1 sh (by omega) h1) (R0 ?_);try with_reducible exact tt
 rw [Nat.one_mul] at hsz hv
 generalize 2^sh=st at *
 refine CallS.pu (o_lt v st (by omega) (by omega)) (R0 ?_);try with_reducible exact tt
 refine CallS.pu (o_lf (v+st) r (by omega) (by omega)) (R0 ?_);try with_reducible exact tt
 have hge:(0≤cmpZ (v+st) r)↔r≤v+st:=by
  unfold cmpZ;split<;>(try split)<;>omega
 by_cases hr:r≤v+st
 ·simp only [if_pos hr]
  have ew:IntKind.i64.wrap ((x:Int)+1)=(x:Int)+1:=w64 (by omega) (by omega)
  refine AW.cond rfl (fun h=>?_) (fun h=>?_)
  ·have hm:=o_om (s:=s) (t:=r)
   have hms:=o_lw hm
   have hrr:=o_oh h3 h3
   have hmsz:size (moreY s r)≤1000:=by
    have:=o_oh hrr hrr
    have h4:r+r+(r+r)=4*r:=by omega
    rw [h4] at this
    omega
   refine G1 ew ?_;try with_reducible exact tt
   refine CallS.pu (o_ol s r hs (by omega)) (R0 ?_);try with_reducible exact tt
   refine CallS.pu (o_ok s (moreY s r) hs hmsz) (R0 ?_);try with_reducible exact tt
  ·simp [hge,hr] at h
 ·simp only [if_neg hr]
  refine AW.cond rfl (fun h=>?_) (fun h=>?_)
  ·simp [hge,hr] at h
  ·refine G0 ?_;try with_reducible exact tt
end
section
open Go.RowKit
theorem o_oo (s:Nat):Eqn Tryz.prog n_yu_walk [.d (.int .i64 s)] [] (.fn (.func o_kn) [.p 0 0]) [⟨3,[.d (.int .i64 s)]⟩]:=by
 refine Eqn.newX r_yu_walk rfl ⟨rfl,fun _=>rfl⟩ (fun n=>rfl) ?_
 refine cc (c':=?z48) ?_ ?_
 case refine_1=>cbv<;>exact rfl
 refine G0 ?_;try with_reducible exact tt
 exact ⟨0,Sub1.refl _,_,rfl,rfl,Subs.refl _⟩

structure WalkS where
 r0:C
 r1:C
 g:C
 os:List O
 call:Option (Nat×List Nat×Option Nat)
 o4:O
 cy:X
 r5:C
 r6:C
 ids:Nat×Nat
 calm:Bool
 res:Nat
 nt:Nat
def callS (o:Oper):Option (Nat×List Nat×Option Nat):=match o.op,o.guard with
 | .call c,none=>match c.callee,c.args.toList with
  | .value (.tmp f),[.tmp x,.tmp y]=>some (f,[x,y],o.dst)
  | _,_=>none
 | _,_=>none
def walkS (P:Program) (f:FuncId):Option WalkS:=match P.funcs[f]? with
 | some fn=>match fn.body with
  | some (.seq r0 (.seq r1 (.block i0 (.loop (.seq g (.seq (.block i1 (.seq (.seq (.region _ ops false) (.cond cy .ret .skip)) r5)) r6))))))=>match ops.toList with
   | [o0,o1,o2,o3,o4]=>some ⟨resolveC P r0,resolveC P r1,resolveC P g,[o0,o1,o2].map (resolveO P ops),callS o3,resolveO P ops o4,X.of cy,resolveC P r5,resolveC P r6,(i0,i1),[o0,o1,o2].all notDefer&&[o4].all notDefer,fn.results.size,fn.ntmps⟩
   | _=>none
  | _=>none
 | none=>none
theorem o_op {P:Program} {f:FuncId} {s:WalkS} (h:walkS P f=some s):∃(fn:Func) (r0 r1 g r5 r6:Code) (i id:Nat) (ops:Array Oper) (o0 o1 o2 o3 o4:Oper) (cy:Operand),
  P.funcs[f]?=some fn∧fn.body=some (.seq r0 (.seq r1 (.block s.ids.1 (.loop (.seq g (.seq (.block s.ids.2 (.seq (.seq (.region id ops false) (.cond cy .ret .skip)) r5)) r6))))))∧ops.toList=[o0,o1,o2,o3,o4] ∧
  resolveC P r0=s.r0∧resolveC P r1=s.r1∧resolveC P g=s.g∧[o0,o1,o2].map (resolveO P ops)=s.os∧callS o3=s.call∧resolveO P ops o4=s.o4∧X.of cy=s.cy∧resolveC P r5=s.r5∧resolveC P r6=s.r6∧([o0,o1,o2].all notDefer&&[o4].all notDefer)=s.calm∧fn.results.size=s.res∧fn.ntmps=s.nt:=by
 unfold walkS at h
 split at h
 ·rename_i fn hf
  split at h
  ·rename_i r0 r1 i0 g i1 id ops cy r5 r6 hb
   split at h
   ·rename_i o0 o1 o2 o3 o4 ho
    cases h
    exact ⟨fn,r0,r1,g,r5,r6,0,id,ops,o0,o1,o2,o3,o4,cy,hf,hb,ho,rfl,rfl,rfl,rfl,rfl,rfl,rfl,rfl,rfl,rfl,rfl,rfl⟩
   ·cases h
  ·cases h
 ·cases h
theorem o_oq {o:Oper} {f x y:Nat} {d:Option Nat} (h:callS o=some (f,[x,y],d)):∃c,o.op = .call c∧o.guard=none∧c.callee = .value (.tmp f)∧c.args.toList=[.tmp x,.tmp y]∧o.dst=d:=by
 unfold callS at h
 split at h
 ·rename_i c ho hg
  split at h
  ·rename_i hc ha
   cases h
   exact ⟨c,ho,hg,hc,ha,rfl⟩
  ·cases h
 ·cases h

structure AtS where
 a1:C
 a2:C
 a3:C
 a4:C
 g:X
 ps:List Nat
 asg:C
 bd:C
 a5:List O
 id:Nat
 calm:Bool
 rs:List RV
 nt:Nat
def atS (P:Program) (f:FuncId):Option AtS:=match P.funcs[f]? with
 | some fn=>match fn.body with
  | some (.seq a1 (.seq a2 (.seq a3 (.seq (.seq a4 (.block id (.rangeFunc g ps asg bd))) (.seq (.region _ ops false) .ret))))) =>
   some ⟨resolveC P a1,resolveC P a2,resolveC P a3,resolveC P a4,X.of g,ps.toList,resolveC P asg,resolveC P bd,ops.toList.map (resolveO P ops),id,Code.calm asg&&(Code.calm bd&&ops.toList.all notDefer),fn.results.toList.map (resolveR P),fn.ntmps⟩
  | _=>none
 | none=>none
theorem o_or {P:Program} {f:FuncId} {s:AtS} (h:atS P f=some s):∃(fn:Func) (a1 a2 a3 a4 asg bd:Code) (g:Operand) (ps:Array Nat) (id:Nat) (ops:Array Oper),
  P.funcs[f]?=some fn∧fn.body=some (.seq a1 (.seq a2 (.seq a3 (.seq (.seq a4 (.block s.id (.rangeFunc g ps asg bd))) (.seq (.region id ops false) .ret))))) ∧
  resolveC P a1=s.a1∧resolveC P a2=s.a2∧resolveC P a3=s.a3∧resolveC P a4=s.a4∧X.of g=s.g∧ps.toList=s.ps∧resolveC P asg=s.asg∧resolveC P bd=s.bd∧ops.toList.map (resolveO P ops)=s.a5∧(Code.calm asg&&(Code.calm bd&&ops.toList.all notDefer))=s.calm∧fn.results.toList.map (resolveR P)=s.rs∧fn.ntmps=s.nt:=by
 unfold atS at h
 split at h
 ·rename_i fn hf
  split at h
  ·rename_i a1 a2 a3 a4 id g ps asg bd id' ops hb
   cases h
   exact ⟨fn,a1,a2,a3,a4,asg,bd,g,ps,id',ops,hf,hb,rfl,rfl,rfl,rfl,rfl,rfl,rfl,rfl,rfl,rfl,rfl,rfl⟩
  ·cases h
 ·cases h

def C.l:C→C
 | .seq a _=>a
 | c=>c
def C.r:C→C
 | .seq _ b=>b
 | c=>c
def C.b:C→C
 | .block _ a | .loop a=>a
 | c=>c
def C.os:C→List O
 | .reg _ l=>l
 | _=>[]
def cAsg:C:=.seq (.reg false [⟨some 7,.mv (.t 24),none,[]⟩]) (.reg false [⟨some 8,.new 220 [.int .i64 0,.int .i64 0,.nilsl,.nilsl],none,[]⟩,⟨none,.store 4 (.t 8) (.t 25),none,[0,0]⟩])
def cBd:C:=.block 2 (.seq (.reg false [⟨some 26,.load true 4 (.t 8),none,[]⟩,⟨none,.store 4 (.t 6) (.t 26),none,[0,0]⟩])
 (.seq (.reg false [⟨some 27,.mv (.t 7),none,[]⟩,⟨some 28,.load false 1 (.t 3),none,[]⟩,⟨some 29,.bin .eql (.t 27) (.t 28),none,[0,1]⟩]) (.cond (.t 29) (.exit 1) .skip)))
theorem at_s:atS Tryz.prog o_kk=some ⟨o_kl.l,o_kl.r.l,o_kl.r.r.l,o_kl.r.r.r.l.l,.t 23,[24,25],cAsg,cBd,o_kl.r.r.r.r.l.os,1,true,[.cell 4 true 4,.t 5],31⟩:=by kernel_rfl
abbrev cWb:C:=o_ko.r.r.b.b
theorem o_os:walkS Tryz.prog o_kn=some ⟨o_ko.l,o_ko.r.l,cWb.l,(cWb.r.l.b.l.l.os).take 3,some (15,[16,17],some 18),((cWb.r.l.b.l.l.os).drop 4).headD ⟨none,.bad,none,[]⟩,.t 19,cWb.r.l.b.r,cWb.r.r,(0,1),true,0,23⟩:=by kernel_rfl

abbrev kO (K:Nat):Ob:=⟨3,[.d (.int .i64 K)]⟩
abbrev plO (c:List V):Ob:=⟨220,c⟩

def Tr (i:Nat) (p:List D):List V:=[.junk,.junk,.junk,.p 0 0,.junk,.junk,.p 2 0]++List.replicate 17 .junk++[.d (.int .i64 i),.d (.agg p)]++List.replicate 5 .junk

theorem o_ot (l n K i:Nat) (c:List V) (p:List D) (hp:p.length=4):AWr Tryz.prog (some l) n 3 cAsg (thenQ (fun T H=>T=((Tr i p).set 7 (.d (.int .i64 i))).set 8 (.p 3 0)∧H=[some (kO K),none,some (plO c),some (plO (p.map .d))]) noQ) (Tr i p) [some (kO K),none,some (plO c)]:=by
 obtain ⟨p1,p2,p3,p4,rfl⟩:∃a b c d,p=[a,b,c,d]:=by
  match p,hp with
  | [a,b,c,d],_=>exact ⟨a,b,c,d,rfl⟩
 simp only [cAsg,Tr]
 refine AWr.seq (AWr.reg ?_)
 simp
 refine AWr.reg ?_
 simp

theorem o_ou (l n K i:Nat) (c:List V) (hc:c.length=4) (p:List D) (hp:p.length=4):AWr Tryz.prog (some l) n 3 cBd (fun e T H=>H=[some (kO K),none,some (plO (p.map .d)),some (plO (p.map .d))]∧e=if i=K then .exit 1 else .normal) (((Tr i p).set 7 (.d (.int .i64 i))).set 8 (.p 3 0)) [some (kO K),none,some (plO c),some (plO (p.map .d))]:=by
 obtain ⟨p1,p2,p3,p4,rfl⟩:∃a b c d,p=[a,b,c,d]:=by
  match p,hp with
  | [a,b,c,d],_=>exact ⟨a,b,c,d,rfl⟩
 obtain ⟨c1,c2,c3,c4,rfl⟩:∃a b c' d,c=[a,b,c',d]:=by
  match c,hc with
  | [a,b,c,d],_=>exact ⟨a,b,c,d,rfl⟩
 simp only [cBd,Tr]
 refine AWr.block ?_
 refine AWr.seq (AWr.reg ?_)
 simp
 refine AWr.seq (AWr.reg ?_)
 by_cases h:i=K
 ·subst h
  simp
  refine AWr.cond rfl (fun h=>?_) (fun h=>?_)
  ·refine AWr.exit ?_
   simp
  ·simp at h
 ·have h':¬(i:Int)=K:=by omega
  simp [h,h']
  refine AWr.cond rfl (fun h=>?_) (fun h=>?_)
  ·simp at h
   omega
  ·refine AWr.skip ?_
   simp

theorem o_ov {m:Mem} {n:Nat} {o:Ob} (h:m.obj n o):∃b,m.ρ n=some b:=by
 obtain ⟨b,_,_,h1,_⟩:=h;exact ⟨b,h1⟩

def RoundR (K i:Nat) (p:List D) (m:Mem) (l:Nat) (rec:LoopState→Option Code→Loop) (e:Ending) (w':World):Prop :=
 ∃m':Mem,m'.w=w'∧m'.base∧m'.obj 0 (kO K)∧m'.obj 2 (plO (p.map .d)) ∧
  if i=K then e = .returned (.bool false)∧(m.at (m.w.putObj l (.loop (rec .done (some (.exit 1)))))).le m' (· < 3) else e = .returned (.bool true)∧m.le m' (· < 3)

theorem o_ow {asg bd:Code} (hasg:resolveC Tryz.prog asg=cAsg) (hbd:resolveC Tryz.prog bd=cBd) (ca:Code.calm asg=true) (cb:Code.calm bd=true) {fn df:Nat} {tmps:Array Value} {rec:LoopState→Option Code→Loop}
  (hrec:rec=fun st pe=>{ state:=st,pending:=pe,fn,tmps,params:=#[24,25],assign:=asg,body:=bd,defers:=df }) (n K i:Nat) (p:List D) (hp:p.length=4) {m:Mem} {l:Nat} {c:List V} (mb:m.base) (h0:m.obj 0 (kO K)) (h2:m.obj 2 (plO c)) (hc:c.length=4)
  (hinj:∀b,m.ρ 0=some b→m.ρ 2≠some b) (htop:∀n,n≠0→n≠2→m.ρ n=none) (t3:(V.p 0 0).rep m (tmps.getD 3 undef)) (t6:(V.p 2 0).rep m (tmps.getD 6 undef)) (hsz:tmps.size=31) (hlo:m.loose l) (hl:m.w.heap[l]?=some (.loop (rec .ready none))) {v:Value} (hv:(V.d (.agg p)).rep m v) :
  YieldAt Fence.wide n Tryz.prog l #[.int .i64 i,v] m.w (RoundR K i p m l rec):=by
 have hy:=run_yield (P:=Tryz.prog) (args:=#[.int .i64 i,v]) hl (by rw [hrec];rfl)
 refine ⟨_,_,_,_,hy,?_⟩
 have ht:((rec .ready none).params.zip #[.int .i64 i,v]).foldl (fun tmps (t,a)=>tmps.setIfInBounds t a) (rec .ready none).tmps=(tmps.setIfInBounds 24 (.int .i64 i)).setIfInBounds 25 v:=by
  rw [hrec];simp
 rw [ht,show (rec .ready none).assign=asg by rw [hrec],show (rec .ready none).body=bd by rw [hrec]]
 clear hy ht
 have sat:Sat m ⟨(tmps.setIfInBounds 24 (.int .i64 i)).setIfInBounds 25 v,[]⟩ (Tr i p) [some (kO K),none,some (plO c)]:=by
  refine ⟨mb,fun s=>?_,fun n ob h=>?_,fun n k b ln lk h1 h3=>?_,fun n h=>htop n (by simp at h;omega) (by simp at h;omega),by simp [Tr,hsz],rfl⟩
  ·have g:((tmps.setIfInBounds 24 (.int .i64 i)).setIfInBounds 25 v).getD s undef=if s=25 then v else if s=24 then .int .i64 i else tmps.getD s undef:=by
    rw [Array.getD_eq_getD_getElem?,Array.getElem?_setIfInBounds]
    by_cases e1:s=25
    ·subst e1;simp [hsz]
    ·rw [if_neg (by omega),if_neg e1,Array.getElem?_setIfInBounds]
     by_cases e2:s=24
     ·subst e2;simp [hsz]
     ·rw [if_neg (by omega),if_neg e2,Array.getD_eq_getD_getElem?]
   have g2:(Tr i p).getD s .junk=if s=25 then .d (.agg p) else if s=24 then .d (.int .i64 i) else if s=3 then .p 0 0 else if s=6 then .p 2 0 else .junk:=by
    rcases Nat.lt_or_ge s 31 with hs | hs
    ·have:∀s,s<31→(Tr i p).getD s .junk=if s=25 then .d (.agg p) else if s=24 then .d (.int .i64 i) else if s=3 then .p 0 0 else if s=6 then .p 2 0 else .junk:=by
      intro s hs
      iterate 31 (rcases s with _ | s;· rfl)
      omega
     exact this s hs
    ·rw [if_neg (by omega),if_neg (by omega),if_neg (by omega),if_neg (by omega),List.getD_eq_getElem?_getD,List.getElem?_eq_none (by simp [Tr];omega)];rfl
   rw [g,g2]
   split
   ·exact hv
   ·split
    ·exact V.rep_int.2 rfl
    ·split
     ·rename_i e;subst e;exact t3
     ·split
      ·rename_i e;subst e;exact t6
      ·unfold V.rep;trivial
  ·rcases n with _ | _ | _ | n
   ·simp at h;subst h;exact h0
   ·simp at h
   ·simp at h;subst h;exact h2
   ·simp at h
  ·have l2:∀n,live [some (kO K),none,some (plO c)] n→n=0∨n=2:=fun n h=>by
    rcases n with _ | _ | _ | n
    ·exact .inl rfl
    ·simp [live] at h
    ·exact .inr rfl
    ·simp [live] at h
   rcases l2 n ln with rfl | rfl<;>rcases l2 k lk with rfl | rfl
   ·rfl
   ·exact (hinj b h1 h3).elim
   ·exact (hinj b h3 h1).elim
   ·rfl
 have htop3:∀n,3≤n→m.ρ n=none:=fun n h=>htop n (by omega) (by omega)
 refine roundIn_of_wpIn trivial (wpIn_mono (o_ot l n K i c p hp asg hasg ca m m _ sat (Mem.le.refl _ _) htop3 (by simp)) ?_)
 rintro e a1 w1 ⟨T1,H1,m1,rfl,hq,sat1,hle1,_⟩
 cases e with
 | normal =>
  obtain ⟨rfl,rfl⟩:=hq
  obtain ⟨lo1,hl1⟩:=hlo.keep hle1
  have hl1':=hl1.trans hl
  refine ⟨_,run_beginRound hl1' (by rw [hrec]),?_⟩
  have nc:∀(r:Loop) c t f,Obj.loop r≠.cells c t f:=by intro r c t f h;cases h
  have hle2:=hlo.le hle1 (o:=.loop { rec .ready none with state:=.busy }) (o':=.loop { rec .ready none with state:=.busy }) hl (nc _) (nc _) (nc _) rfl
  have sat2:=lo1.sat (.loop { rec .ready none with state:=.busy }) sat1
  refine wpIn_mono (o_ou l n K i c hc p hp bd hbd cb (m.at (m.w.putObj l (.loop { rec .ready none with state:=.busy }))) _ a1 sat2 hle2 htop3 (by simp)) ?_
  rintro e a3 w3 ⟨T3,H3,m3,rfl,⟨rfl,rfl⟩,sat3,hle3,_⟩
  obtain ⟨lo3,hl3⟩:=(hlo.put (.loop { rec .ready none with state:=.busy })).keep hle3
  rw [World.putObj_heap_same hlo.lt] at hl3
  have hend:=fun jump=>run_endRound (P:=Tryz.prog) jump hl3
  have hle4:=fun o (ho:∀c t f,o≠Obj.cells c t f)=>(hlo.put (.loop { rec .ready none with state:=.busy })).le hle3 (o:=o) (o':=o) (World.putObj_heap_same hlo.lt) (nc _) ho ho rfl
  have sat4:=fun o=>lo3.sat o sat3
  by_cases hik:i=K
  ·simp only [if_pos hik]
   refine ⟨_,_,hend (some (.exit 1)),⟨_,rfl,(sat4 _).base,(sat4 _).obj 0 _ rfl,(sat4 _).obj 2 _ rfl,?_⟩⟩
   rw [if_pos hik]
   refine ⟨rfl,?_⟩
   have:=hle4 (.loop { rec .ready none with state:=.done,pending:=some (.exit 1) }) (nc _)
   simp only [o_6f] at this
   rw [hrec] at this ⊢
   exact this
  ·simp only [if_neg hik]
   refine ⟨_,_,hend none,⟨_,rfl,(sat4 _).base,(sat4 _).obj 0 _ rfl,(sat4 _).obj 2 _ rfl,?_⟩⟩
   rw [if_neg hik]
   refine ⟨rfl,?_⟩
   have:=hle4 (.loop (rec .ready none)) (nc _)
   simp only [o_6f,o_6g hl] at this
   rw [hrec] at this ⊢
   exact this
 | _=>exact hq.elim
end
section
open Go.RowKit
theorem Sat.put {m:Mem} {a:Act} {T:List V} {H:List (Option Ob)} (sat:Sat m a T H) (s:Nat) {x:V} {v:Value} (hv:x.rep m v):Sat m (a.put (some s) v) (T.set s x) H:=by
 refine ⟨sat.base,fun i=>?_,sat.obj,sat.inj,sat.top,by rw [o_48];simpa using sat.size,by rw [o_49];exact sat.defers⟩
 have h1:T.set s x=putT T (some s) x:=rfl
 rw [h1,o_4a,o_47,sat.size]
 split
 ·exact hv
 ·exact sat.slots i

abbrev sO (s:Nat):Ob:=⟨3,[.d (.int .i64 s)]⟩
def plC (p:Pl):List D:=[.int .i64 p.x,.int .i64 p.shift,natW p.value,natW p.reply]
abbrev fnY (l:Nat):V:=.fn (.yield l) []
def Tw0 (l:Nat):List V:=[fnY l,.p 3 0,.junk,.p 5 0]++List.replicate 19 .junk
def Tw (l i:Nat):List V:=[fnY l,.p 3 0,.junk,.p 5 0,.d (.int .i64 i)]++List.replicate 18 .junk
def Hw (K s i:Nat) (c:List V):List (Option Ob):=[some (kO K),none,some (plO c),some (sO s),none,some (plO ((plC (placeY s i)).map .d))]

theorem o_ox {s k:Nat} (h1:1≤s) (h5:s≤5) (hk:k≤1024):(placeY s k).x≤100000∧(placeY s k).shift≤8192∧size (placeY s k).value≤900∧size (placeY s k).reply≤900:=by
 obtain ⟨a1,a2,a3,a4,a5⟩:=o_np h1 k
 refine ⟨by omega,by omega,?_,?_⟩
 ·refine Nat.le_trans (o_oi (n:=11+(2*s+k)) (m:=20) (Nat.lt_of_le_of_lt a4 ?_) (by omega)) (by omega)
  have hp:=Nat.two_pow_pos (2*s+k)
  rw [Nat.pow_add 2 11]
  generalize 2^(2*s+k)=z at *
  have h1:k*z≤1024*z:=Nat.mul_le_mul_right _ hk
  have h2:(2:Nat)^11*z=2048*z:=rfl
  rw [h2]
  omega
 ·exact Nat.le_trans (o_oi (n:=2*s+k+1) (m:=20) (Nat.lt_of_le_of_lt a2 (Nat.pow_lt_pow_right (by omega) (Nat.lt_succ_self _))) (by omega)) (by omega)

theorem w_r0 (l K s:Nat) (h1:1≤s) (h5:s≤5) (c:List V) (hc:V.lowl 6 c=true):AW Tryz.prog 4 o_ko.l (thenQ (fun T H=>wk 6 T (Tw0 l)∧wkH 6 H (Hw K s 0 c)) noQ) ([fnY l,.p 3 0]++List.replicate 21 .junk) [some (kO K),none,some (plO c),some (sO s)]:=by
 simp only [o_ko,C.l,Tw0,Hw]
 have e1:IntKind.i64.wrap (2*(s:Int))=2*(s:Int):=w64 (by omega) (by omega)
 have e2:((2:Int)*s).toNat=2*s:=by omega
 have e3:(2:Int)^(2*s)=(2^(2*s):Nat):=by rw [Int.natCast_pow];rfl
 have hlt:2^(2*s)≤2^10:=Nat.pow_le_pow_right (by omega) (by omega)
 have hp0:placeY s 0=⟨0,0,0,2^(2*s)⟩:=rfl
 rw [hp0]
 generalize 2^(2*s)=q at *
 have e4:IntKind.u64.wrap (q:Int)=q:=wu64 (by omega) (by omega)
 have e5:(2:Int)*s≤64:=by omega
 refine G1 (fs e1 (fs e2 (fs e3 (fs e4 e5)))) ?_;try with_reducible exact tt
 refine CallS.pf 4 1 ⟨136,_⟩ [.int .u64 q] (o_lc [q] (o_m7 (by omega)) (by simp)) (by first | rfl | (simp;done)) (R0 ?_);try with_reducible exact tt
 exact ⟨Subs.cons (Sub1.refl _) (Subs.cons (Sub1.refl _) (Subs.cons Sub1.nil (Subs.of (by simp [wval])))),rfl⟩

theorem w_r1 (l K s:Nat) (c:List V) (hc:V.lowl 6 c=true):AW Tryz.prog 4 o_ko.r.l (thenQ (fun T H=>wk 6 T (Tw l 0)∧wkH 6 H (Hw K s 0 c)) noQ) (Tw0 l) (Hw K s 0 c):=by
 simp only [o_ko,C.l,C.r,Tw0,Tw,Hw]
 have hp:V.lowl 6 ((plC (placeY s 0)).map V.d)=true:=rfl
 refine G1 (fs hc hp) ?_;try with_reducible exact tt

theorem w_g (l K s i:Nat) (hi:i≤1023) (c:List V) (hc:V.lowl 6 c=true):AW Tryz.prog 4 cWb.l (thenQ (fun T H=>wk 6 T (Tw l i)∧wkH 6 H (Hw K s i c)) noQ) (Tw l i) (Hw K s i c):=by
 simp only [o_ko,C.l,C.r,C.b,Tw,Hw]
 have hp:V.lowl 6 ((plC (placeY s i)).map V.d)=true:=rfl
 have h1:(i:Int)≤1023:=by omega
 refine G1 (fs hc (fs hp h1)) ?_;try with_reducible exact tt
 refine AW.cond rfl (fun h=>?_) (fun h=>?_)
 ·refine G1 (fs hc hp) ?_;try with_reducible exact tt
 ·simp [h1] at h

theorem w_r5 (l K s i:Nat) (h1:1≤s) (h5:s≤5) (hi:i≤1023) (c:List V) (hc:V.lowl 6 c=true):AW Tryz.prog 4 cWb.r.l.b.r (thenQ (fun T H=>wk 6 T (Tw l i)∧wkH 6 H (Hw K s (i+1) c)) noQ) (Tw l i) (Hw K s i c):=by
 simp only [o_ko,C.l,C.r,C.b,Tw,Hw]
 obtain ⟨b1,b2,b3,b4⟩:=o_ox h1 h5 (k:=i) (by omega)
 have hn:=o_on s (placeY s i) h5 b1 b2 b3 b4
 rw [show nextY s (placeY s i)=placeY s (i+1) from rfl] at hn
 generalize placeY s i=p at *
 generalize placeY s (i+1)=p' at *
 simp only [plC,List.map_cons,List.map_nil,plD] at hn ⊢
 refine G1 hc ?_;try with_reducible exact tt
 refine CallS.pu (hn) (R1 hc ?_);try with_reducible exact tt

theorem w_r6 (l K s i:Nat) (hi:i≤1023) (c:List V) (hc:V.lowl 6 c=true):AW Tryz.prog 4 cWb.r.r (thenQ (fun T H=>wk 6 T (Tw l (i+1))∧wkH 6 H (Hw K s (i+1) c)) noQ) (Tw l i) (Hw K s (i+1) c):=by
 simp only [o_ko,C.l,C.r,C.b,Tw,Hw]
 have hp:V.lowl 6 ((plC (placeY s (i+1))).map V.d)=true:=rfl
 generalize (plC (placeY s (i+1))).map V.d=pc at *
 have ew:IntKind.i64.wrap ((i:Int)+1)=(i:Int)+1:=w64 (by omega) (by omega)
 refine G1 (fs hc (fs hp ew)) ?_;try with_reducible exact tt

theorem w_os (l K s i:Nat) (c:List V) (ops:Array Oper) {K':List V→List (Option Ob)→Prop} (h:K' ((((Tw l i).set 15 (fnY l)).set 16 (.d (.int .i64 i))).set 17 (.d (.agg (plC (placeY s i))))) (Hw K s i c)) :
  vops Tryz.prog false K' ((cWb.r.l.b.l.l.os).take 3) [] (Tw l i) (Hw K s i c):=by
 simp only [cWb,o_ko,C.l,C.r,C.b,C.os,Tw,Hw] at h ⊢
 generalize placeY s i=p at *
 simp only [plC,List.map_cons,List.map_nil] at h ⊢
 simp
 simpa using h
theorem w_o4 (l K s i:Nat) (p:D) (b:Bool) (H:List (Option Ob)) {K':List V→List (Option Ob)→Prop} (h:K' (((((Tw l i).set 15 (fnY l)).set 16 (.d (.int .i64 i))).set 17 (.d p)).set 18 (.d (.bool b)) |>.set 19 (.d (.bool !b))) H) :
  vops Tryz.prog false K' [((cWb.r.l.b.l.l.os).drop 4).headD ⟨none,.bad,none,[]⟩] [] (((((Tw l i).set 15 (fnY l)).set 16 (.d (.int .i64 i))).set 17 (.d p)).set 18 (.d (.bool b))) H:=by
 simp only [cWb,o_ko,C.l,C.r,C.b,C.os,Tw] at h ⊢
 simp
 simpa using h
end
section
open Go.RowKit
theorem o_oy (n:Nat) (p:Pl):V.lowl n ((plC p).map V.d)=true:=rfl
theorem o_oz {m:Mem} {a:Act} {T:List V} {H:List (Option Ob)} (sat:Sat m a T H) {s:Nat} {x:V} (h:T.getD s .junk=x):x.rep m (a.tmps.getD s undef):=h▸sat.slots s
theorem nloop (r:Loop):∀c t f,Obj.loop r≠.cells c t f:=by intro c t f h;cases h

theorem o_p0 {m m':Mem} (hI:m'.I=m.I) (hw:m'.w=m.w) {ds:List D} {vs:List Value} (h:V.reps m (ds.map V.d) vs):V.reps m' (ds.map V.d) vs:=by
 rw [V.reps_map_d] at h ⊢
 rw [hI,hw];exact h
theorem o_p1 {m:Mem} {a:Act} {T:List V} {H:List (Option Ob)} (sat:Sat m a T H) {c:Operand} {s:Nat} (hc:X.of c = .t s) {b:Bool} (h:T.getD s .junk = .d (.bool b)):a.eval c = .bool b :=
 V.rep_bool.1 (X.rep' (T:=T) (fun s _=>sat.slots s) (by rw [hc];exact h))
def zD:List D:=[.int .i64 0,.int .i64 0,.nilsl,.nilsl]
def SS:Nat→Bool:=fun n=>n==0 || n==2

set_option maxHeartbeats 4000000 in
theorem o_p2 {asg bd:Code} (hasg:resolveC Tryz.prog asg=cAsg) (hbd:resolveC Tryz.prog bd=cBd) (ca:Code.calm asg=true) (cb:Code.calm bd=true) {fn df:Nat} {tmps:Array Value} {rec:LoopState→Option Code→Loop}
  (hrec:rec=fun st pe=>{ state:=st,pending:=pe,fn,tmps,params:=#[24,25],assign:=asg,body:=bd,defers:=df }) (s K:Nat) (s1:1≤s) (s5:s≤5) (hK:K≤1023) {m:Mem} {l:Nat} {sv:Value}
  (sat:∀a:Act,a.tmps = #[.func (.yield l) #[] #[],sv]++Array.replicate 21 undef→a.defers=[]→Sat m a ([fnY l,.p 3 0]++List.replicate 21 .junk) [some (kO K),none,some (plO (zD.map V.d)),some (sO s)])
  (t3:(V.p 0 0).rep m (tmps.getD 3 undef)) (t6:(V.p 2 0).rep m (tmps.getD 6 undef)) (hsz:tmps.size=31) (hlo:m.loose l) (hl:m.w.heap[l]?=some (.loop (rec .ready none))) :
  Calls Tryz.prog o_kn #[.func (.yield l) #[] #[],sv] m.w fun e w'=>(∃v,e = .returned v)∧∃m':Mem,m'.w=w'∧m'.base∧m'.obj 2 (plO ((plC (placeY s K)).map .d))∧(m.at (m.w.putObj l (.loop (rec .done (some (.exit 1)))))).le m' (· < 4):=by
 obtain ⟨f67,r0,r1,g,r5,r6,-,id,ops,o0,o1,o2,o3,o4,cy,hf,hb,hops,e0,e1,eg,eos,ecall,eo4,ecy,er5,er6,ecalm,eres,ent⟩:=o_op o_os
 simp only at hb e0 e1 eg eos ecall eo4 ecy er5 er6 ecalm eres ent
 obtain ⟨cc,ho3,hg3,hc3,ha3,hd3⟩:=o_oq ecall
 rw [Bool.and_eq_true] at ecalm
 refine calls_of_wp hf hb ((wpIn_wide (n:=0)).1 ?_)
 have sat0:=sat { tmps:=#[.func (.yield l) #[] #[],sv]++Array.replicate (f67.ntmps - #[Value.func (.yield l) #[] #[],sv].size) undef,defers:=[] } (by rw [ent];rfl) rfl
 have htop:∀n,4≤n→m.ρ n=none:=sat0.top
 refine AW.then (L:=4) e0 (w_r0 l K s s1 s5 (zD.map V.d) rfl) sat0 (Mem.le.refl _ _) htop (by simp) fun T1 H1 m1 a1 hq st1 le1 L1=>?_
 obtain ⟨m1',hw1,st1',le1',L1'⟩:=Sat.weaken (T1:=Tw0 l) (H1:=Hw K s 0 (zD.map V.d)) (Weak.of hq.1 hq.2) st1 le1 htop (by simp [Hw])
 rw [←hw1]
 refine AW.then (L:=4) e1 (w_r1 l K s (zD.map V.d) rfl) st1' le1' htop (by simp [Hw]) fun T2 H2 m2 a2 hq st2 le2 L2=>?_
 obtain ⟨m2',hw2,st2',le2',L2'⟩:=Sat.weaken (T1:=Tw l 0) (H1:=Hw K s 0 (zD.map V.d)) (Weak.of hq.1 hq.2) st2 le2 htop (by simp [Hw])
 rw [←hw2]
 clear hw1 hw2 st1 st2 sat0 sat le1 le2 L1 L2 st1' le1' L1' hq
 refine wpIn_block (wpIn_wide.2 (o_58 (fun k a w=>∃(i:Nat) (c:List D) (m':Mem),m'.w=w∧k=1024-i∧i≤K∧c.length=4∧Sat m' a (Tw l i) (Hw K s i (c.map V.d))∧m.le m' (· < 4)) ?_ 1024 a2 m2'.w ⟨0,_,m2',rfl,rfl,Nat.zero_le _,rfl,st2',le2'⟩))
 clear st2' le2' L2' hq m2 m2' a2 T2 H2 m1 m1' a1 T1 H1
 rintro k a w ⟨i,c,mw,rfl,rfl,hi,hc,st,le⟩
 have hlc:V.lowl 6 (c.map V.d)=true:=V.lowl_mono (by omega) _ (o_5m c).1
 refine (wpIn_wide (n:=0)).1 ?_
 refine AW.then (L:=4) eg (w_g l K s i (by omega) (c.map V.d) hlc) st le htop (by simp [Hw]) fun T1 H1 m1 a1 hq st1 le1 L1=>?_
 obtain ⟨m1',hw1,st1',le1',L1'⟩:=Sat.weaken (T1:=Tw l i) (H1:=Hw K s i (c.map V.d)) (Weak.of hq.1 hq.2) st1 le1 htop (by simp [Hw])
 rw [←hw1]
 clear hw1 st1 le1 L1 hq st le m1 T1 H1 a mw
 refine wpIn_seq (wpIn_block (wpIn_seq (wpIn_seq (o_6i ?_))))
 rw [hops,show [o0,o1,o2,o3,o4]=[o0,o1,o2]++[o3,o4] from rfl]
 refine o_69 (l:=none) (L:=4) (K:=fun T H=>T=((((Tw l i).set 15 (fnY l)).set 16 (.d (.int .i64 i))).set 17 (.d (.agg (plC (placeY s i)))))∧H=Hw K s i (c.map V.d)) [o3,o4] ecalm.1 (by rw [eos];exact w_os l K s i (c.map V.d) ops ⟨rfl,rfl⟩) st1' le1' htop (by simp [Hw]) fun T2 H2 a2 m2 hq st2 le2 L2=>?_
 obtain ⟨rfl,rfl⟩:=hq
 clear st1' le1' L1' m1' a1
 -- the call of yield
 have g15:a2.eval (.tmp 15) = .func (.yield l) #[] #[]:=by
  have:=o_oz st2 (s:=15) (x:=fnY l) (by simp [Tw])
  unfold V.rep at this
  obtain ⟨vs,h1,h2⟩:=this
  simp at h2
  subst h2
  exact h1
 have g16:a2.eval (.tmp 16) = .int .i64 i:=V.rep_int.1 (o_oz st2 (s:=16) (by simp [Tw]))
 have g17:(V.d (.agg (plC (placeY s i)))).rep m2 (a2.eval (.tmp 17)):=o_oz st2 (s:=17) (by simp [Tw])
 obtain ⟨lo2,hl2⟩:=hlo.keep le2
 have hl2':=hl2.trans hl
 have hcut:∀n,n=0∨n=2→(m2.cut SS).ρ n=m2.ρ n:=fun n h=>by rcases h with rfl | rfl<;>simp [SS]
 have hobj:∀(n:Nat) (ty:TypeId) (ds:List D),n=0∨n=2→m2.obj n ⟨ty,ds.map V.d⟩→(m2.cut SS).obj n ⟨ty,ds.map V.d⟩:=by
  rintro n ty ds hn ⟨b,vs,more,h1,h2,h3,h4,h5⟩
  exact ⟨b,vs,more,by rw [hcut n hn];exact h1,h2,h3,o_p0 (m:=m2) (m':=m2.cut SS) rfl rfl (show V.reps m2 (ds.map V.d) vs from h4),h5⟩
 have hun:∀(n:Nat) (ty:TypeId) (ds:List D) (mr:Mem),n=0∨n=2→(∀b,m2.ρ n=some b→mr.ρ n=some b)→mr.obj n ⟨ty,ds.map V.d⟩→(⟨m2.ρ,mr.I,mr.w⟩:Mem).obj n ⟨ty,ds.map V.d⟩:=by
  rintro n ty ds mr hn hρ ⟨b,vs,more,h1,h2,h3,h4,h5⟩
  obtain ⟨b',hb'⟩:∃b',m2.ρ n=some b':=by
   rcases hn with rfl | rfl
   ·exact o_ov (st2.obj 0 _ rfl)
   ·exact o_ov (st2.obj 2 _ rfl)
  have:=hρ b' hb'
  rw [h1] at this
  cases this
  exact ⟨b,vs,more,hb',h2,h3,o_p0 (m:=mr) (m':=⟨m2.ρ,mr.I,mr.w⟩) rfl rfl (show V.reps mr (ds.map V.d) vs from h4),h5⟩
 have r3:(V.p 0 0).rep (m2.cut SS) (tmps.getD 3 undef):=by
  unfold V.rep at t3 ⊢
  obtain ⟨b,h1,h2⟩:=t3
  exact ⟨b,by rw [hcut 0 (.inl rfl)];exact le2.ρ 0 b h1,h2⟩
 have r6':(V.p 2 0).rep (m2.cut SS) (tmps.getD 6 undef):=by
  unfold V.rep at t6 ⊢
  obtain ⟨b,h1,h2⟩:=t6
  exact ⟨b,by rw [hcut 2 (.inr rfl)];exact le2.ρ 2 b h1,h2⟩
 have rv:(V.d (.agg (plC (placeY s i)))).rep (m2.cut SS) (a2.eval (.tmp 17)):=V.rep_d.2 (V.rep_d.1 g17)
 have loc:(m2.cut SS).loose l:=by
  refine ⟨lo2.lt,fun n h=>?_,lo2.I⟩
  simp only at h
  split at h
  ·exact lo2.ρ n h
  ·cases h
 have hround:=o_ow hasg hbd ca cb hrec (0-1) K i (plC (placeY s i)) rfl (m:=m2.cut SS) (l:=l) (c:=c.map V.d) (Mem.cut_base st2.base SS) (hobj 0 _ [.int .i64 K] (.inl rfl) (st2.obj 0 _ rfl)) (hobj 2 _ c (.inr rfl) (st2.obj 2 _ rfl)) (by simpa using hc)
  (fun b h0 h2=>by
   rw [hcut 0 (.inl rfl)] at h0;rw [hcut 2 (.inr rfl)] at h2
   have:=st2.inj 0 2 b rfl rfl h0 h2
   omega)
  (fun n h0 h2=>by simp [SS,h0,h2]) r3 r6' hsz loc hl2' rv
 obtain ⟨fn',tmps',asg',bd',hy,hR⟩:=hround
 rw [←g16] at hy
 refine wpListIn_plain hg3 (fun Kk hKk=>⟨fun _ _=>trivial,?_⟩)
 rw [show (FR none).round=none from rfl,Oper.semAt_none,o_6e ho3 hc3 ha3 g15,hy,Oper.uponIn_round]
 refine ⟨fun h=>by simp [FR,Fence.wide] at h,hR.mono ?_⟩
 rintro e w' ⟨mr,rfl,mrb,mr0,mr2,hcase⟩
 -- both ways: a memory that fits
 have key:∀(o:Obj),(∀c t f,o≠.cells c t f)→((m2.cut SS).at (m2.w.putObj l o)).le mr (· < 3)→∀b:Bool,
   Sat ⟨m2.ρ,mr.I,mr.w⟩ (a2.put (some 18) (.bool b)) (((((Tw l i).set 15 (fnY l)).set 16 (.d (.int .i64 i))).set 17 (.d (.agg (plC (placeY s i))))).set 18 (.d (.bool b))) (Hw K s i ((plC (placeY s i)).map V.d))∧(m2.at (m2.w.putObj l o)).le ⟨m2.ρ,mr.I,mr.w⟩ (fun n=>SS n=true):=by
  intro o ho hle b
  have hu:=Mem.uncut (m:=m2.at (m2.w.putObj l o)) (S:=SS) hle (fun n h=>by simp [SS] at h;omega)
  have hρ:∀n b,m2.ρ n=some b→n=0∨n=2→mr.ρ n=some b:=fun n b h hn=>hle.ρ n b (by show (if SS n=true then m2.ρ n else none)=some b;rw [if_pos (by rcases hn with rfl | rfl<;>rfl)];exact h)
  refine ⟨Sat.put (Sat.uncut (H':=Hw K s i ((plC (placeY s i)).map V.d)) (lo2.sat o st2) mrb hu (fun n h=>?_) rfl fun n ob h=>?_) 18 (V.rep_bool.2 rfl),hu⟩
  ·simp [SS] at h
   rcases h with rfl | rfl<;>rfl
  ·rcases n with _ | _ | _ | _ | _ | _ | n
   ·left;simp [Hw] at h;subst h
    exact ⟨rfl,hun 0 _ [.int .i64 K] mr (.inl rfl) (fun b h=>hρ 0 b h (.inl rfl)) mr0⟩
   ·simp [Hw] at h
   ·left;simp [Hw] at h;subst h
    exact ⟨rfl,hun 2 _ (plC (placeY s i)) mr (.inr rfl) (fun b h=>hρ 2 b h (.inr rfl)) mr2⟩
   ·right;simp [Hw] at h;subst h;exact ⟨rfl,rfl⟩
   ·simp [Hw] at h
   ·right;simp [Hw] at h;subst h;exact ⟨rfl,by simp [Hw]⟩
   ·simp [Hw] at h
 have hres:∀(a:Act) (w:World),(results f67 a.tmps).run Tryz.prog w = .ok (.tuple #[]) w:=fun a w=>by
  have:f67.results = #[]:=Array.eq_empty_of_size_eq_zero eres
  simp [results,this]
 have hmap:[o4].map (resolveO Tryz.prog ops)=[((cWb.r.l.b.l.l.os).drop 4).headD ⟨none,.bad,none,[]⟩]:=by rw [←eo4];rfl
 by_cases hik:i=K
 ·rw [if_pos hik] at hcase
  obtain ⟨rfl,hle⟩:=hcase
  obtain ⟨sat5,le5⟩:=key _ (nloop _) hle false
  refine hKk _ _ ?_
  rw [hd3]
  have lem:=(hlo.le le2 (o:=.loop (rec .done (some (.exit 1)))) (o':=.loop (rec .done (some (.exit 1)))) hl (nloop _) (nloop _) (nloop _) rfl).trans le5 (fun n b _ h=>by simp [SS] at h;omega)
  refine o_69 (l:=none) (L:=4) (m0:=m.at (m.w.putObj l (.loop (rec .done (some (.exit 1)))))) (m:=⟨m2.ρ,mr.I,mr.w⟩) (K:=fun T H=>T=(((((Tw l i).set 15 (fnY l)).set 16 (.d (.int .i64 i))).set 17 (.d (.agg (plC (placeY s i))))).set 18 (.d (.bool false))).set 19 (.d (.bool true))∧H=Hw K s i ((plC (placeY s i)).map V.d)) [] ecalm.2 (by rw [hmap];exact w_o4 l K s i _ false _ ⟨rfl,rfl⟩) sat5 lem htop (by simp [Hw]) fun T6 H6 a6 m6 hq st6 le6 _=>?_
  obtain ⟨rfl,rfl⟩:=hq
  refine wpListIn_nil ?_
  refine wpIn_cond_split (o_p1 st6 ecy (b:=true) (by simp [Tw])) (fun _=>wpIn_ret ?_) (fun h=>by cases h)
  refine ⟨st6.defers,_,hres _ _,⟨_,rfl⟩,m6,rfl,st6.base,?_,le6⟩
  rw [←hik]
  exact st6.obj 2 _ rfl
 ·rw [if_neg hik] at hcase
  obtain ⟨rfl,hle⟩:=hcase
  obtain ⟨sat5,le5⟩:=key (.loop (rec .ready none)) (nloop _) (by rw [o_6g hl2'];exact hle) true
  rw [o_6g hl2'] at le5
  refine hKk _ _ ?_
  rw [hd3]
  refine o_69 (l:=none) (L:=4) (m0:=m) (m:=⟨m2.ρ,mr.I,mr.w⟩) (K:=fun T H=>T=(((((Tw l i).set 15 (fnY l)).set 16 (.d (.int .i64 i))).set 17 (.d (.agg (plC (placeY s i))))).set 18 (.d (.bool true))).set 19 (.d (.bool false))∧H=Hw K s i ((plC (placeY s i)).map V.d)) [] ecalm.2 (by rw [hmap];exact w_o4 l K s i _ true _ ⟨rfl,rfl⟩) sat5 (le2.trans le5 (fun n b _ h=>by simp [SS] at h;omega)) htop (by simp [Hw]) fun T6 H6 a6 m6 hq st6 le6 _=>?_
  obtain ⟨rfl,rfl⟩:=hq
  refine wpListIn_nil ?_
  refine wpIn_cond_split (o_p1 st6 ecy (b:=false) (by simp [Tw])) (fun h=>by cases h) (fun _=>wpIn_skip ?_)
  have hlp:=o_oy 6 (placeY s i)
  obtain ⟨m7,hw7,st7,le7,_⟩:=Sat.weaken (T1:=Tw l i) (H1:=Hw K s i ((plC (placeY s i)).map V.d)) (Weak.of (by simp [Tw,Hw,V.low,V.lowl]) (by simp [Hw,hlp,V.lowl,V.low])) st6 le6 htop (by simp [Hw])
  rw [←hw7]
  refine wpIn_mono (wpIn_wide.2 (w_r5 l K s i s1 s5 (by omega) _ hlp r5 er5 m m7 a6 st7 le7 htop (by simp [Hw]))) ?_
  rintro e a8 w8 ⟨T8,H8,m8,rfl,hq,st8,le8,_⟩
  cases e with
  | normal =>
   obtain ⟨m9,hw9,st9,le9,_⟩:=Sat.weaken (T1:=Tw l i) (H1:=Hw K s (i+1) ((plC (placeY s i)).map V.d)) (Weak.of hq.1 hq.2) st8 le8 htop (by simp [Hw])
   rw [←hw9]
   refine wpIn_mono (wpIn_wide.2 (w_r6 l K s i (by omega) _ hlp r6 er6 m m9 a8 st9 le9 htop (by simp [Hw]))) ?_
   rintro e a10 w10 ⟨T10,H10,m10,rfl,hq,st10,le10,_⟩
   cases e with
   | normal =>
    obtain ⟨m11,hw11,st11,le11,_⟩:=Sat.weaken (T1:=Tw l (i+1)) (H1:=Hw K s (i+1) ((plC (placeY s i)).map V.d)) (Weak.of hq.1 hq.2) st10 le10 htop (by simp [Hw])
    exact ⟨1024-(i+1),by omega,i+1,plC (placeY s i),m11,hw11,rfl,by omega,rfl,st11,le11⟩
   | _=>exact hq.elim
  | _=>exact hq.elim
end
section
open Go.RowKit
def atE (s k:Int):Int:=if 1≤s∧s≤5 then (if 0≤k∧k≤1023 then 0 else 2) else 10
def atP (s k:Int):Pl:=if atE s k=0 then placeY s.toNat k.toNat else ⟨0,0,0,0⟩

def Ta (s k:Nat) (x23:V):List V:=[.d (.int .i64 s),.d (.int .i64 k),.junk,.p 0 0,.p 1 0,.d (.int .i64 0),.p 2 0]++List.replicate 16 .junk++[x23]++List.replicate 7 .junk
def Ta0 (s k:Nat):List V:=[.d (.int .i64 s),.d (.int .i64 k),.junk,.p 0 0,.p 1 0,.d (.int .i64 0)]++List.replicate 25 .junk
abbrev zO:Ob:=plO (zD.map V.d)

theorem a_1 (s k:Nat):AW Tryz.prog 0 o_kl.l (thenQ (fun T H=>wk 2 T (Ta0 s k)∧wkH 2 H [some (kO k),some zO]) noQ) ([.d (.int .i64 s),.d (.int .i64 k)]++List.replicate 29 .junk) []:=by
 simp only [o_kl,C.l,Ta0]
 refine G0 ?_;try with_reducible exact tt
 exact ⟨Subs.refl _,rfl⟩
theorem a_2 (s k:Nat) (s1:1≤s) (s5:s≤5) (hk:k≤1023):AW Tryz.prog 0 o_kl.r.l (thenQ (fun T H=>wk 2 T (Ta0 s k)∧wkH 2 H [some (kO k),some zO]) noQ) (Ta0 s k) [some (kO k),some zO]:=by
 simp only [o_kl,C.l,C.r,Ta0,zD]
 refine G0 ?_;try with_reducible exact tt
 refine CallS.pu (o_of s) (R0 ?_);try with_reducible exact tt
 have h1:(1:Int)≤s∧(s:Int)≤5:=by omega
 refine AW.cond rfl (fun h=>?_) (fun h=>?_)
 ·simp [h1] at h
 have h2:¬(1023:Int)<k:=by omega
 refine G1 h2 ?_;try with_reducible exact tt
 refine AW.cond rfl (fun h=>?_) (fun h=>?_)
 ·simp at h
 refine G0 ?_;try with_reducible exact tt
 rfl
theorem a_3 (s k:Nat):AW Tryz.prog 0 o_kl.r.r.l (thenQ (fun T H=>wk 3 T (Ta s k .junk)∧wkH 3 H [some (kO k),some zO,some zO]) noQ) (Ta0 s k) [some (kO k),some zO]:=by
 simp only [o_kl,C.l,C.r,Ta0,Ta]
 refine G0 ?_;try with_reducible exact tt
 exact ⟨Subs.refl _,rfl⟩
theorem a_4 (s k:Nat):AW Tryz.prog 0 o_kl.r.r.r.l.l (thenQ (fun T H=>wk 4 T (Ta s k (.fn (.func o_kn) [.p 3 0]))∧wkH 4 H [some (kO k),some zO,some zO,some (sO s)]) noQ) (Ta s k .junk) [some (kO k),some zO,some zO]:=by
 simp only [o_kl,C.l,C.r,Ta]
 refine G0 ?_;try with_reducible exact tt
 refine CallS.newX (o_oo s) ⟨rfl,fun _=>rfl⟩ rfl (fun _=>rfl) (Subs.refl _) ?_
 simp [nameOf,V.ren,V.rens]
 rfl
theorem a_5 (s k:Nat) (x:V) (p:Pl) {K':List V→List (Option Ob)→Prop} (h:∀T,T.getD 4 .junk = .p 1 0→T.getD 5 .junk = .d (.int .i64 0)→K' T [none,some (plO ((plC p).map V.d)),some (plO ((plC p).map V.d)),none]) :
  vops Tryz.prog false K' o_kl.r.r.r.r.l.os [] (Ta s k x) [none,some zO,some (plO ((plC p).map V.d)),none]:=by
 simp only [o_kl,C.l,C.r,C.os,Ta,zD]
 simp only [plC,List.map_cons,List.map_nil] at h ⊢
 simp
 exact need.of (by decide) (h _ rfl rfl)

theorem o_p3 (l:List V) (n i:Nat) (h:l.length≤i):(l++List.replicate n V.junk).getD i .junk = .junk:=by
 rw [List.getD_eq_getElem?_getD,List.getElem?_append_right h,List.getElem?_replicate];split<;>rfl
theorem o_p4 {m:Mem} {H:List (Option Ob)} {a:Act} {l:Nat} {sv:Value} (hb:m.base) (hobj:∀n ob,H.getD n none=some ob→m.obj n ob) (hinj:∀n k b,live H n→live H k→m.ρ n=some b→m.ρ k=some b→n=k) (htop:∀n,H.length≤n→m.ρ n=none)
  (hv:(V.p 3 0).rep m sv) (ht:a.tmps = #[.func (.yield l) #[] #[],sv]++Array.replicate 21 undef) (hd:a.defers=[]):Sat m a ([fnY l,.p 3 0]++List.replicate 21 .junk) H:=by
 refine ⟨hb,fun s=>?_,hobj,hinj,htop,by rw [ht];simp,hd⟩
 rcases s with _ | _ | s
 ·rw [ht]
  show V.rep m (fnY l) _
  unfold V.rep
  exact ⟨[],by simp,by simp⟩
 ·rw [ht]
  show V.rep m (.p 3 0) _
  simpa using hv
 ·have:([fnY l,.p 3 0]++List.replicate 21 V.junk).getD (s+2) .junk = .junk:=o_p3 _ _ _ (by simp)
  rw [this]
  unfold V.rep
  trivial
def SC:Nat→Bool:=fun n=>n==0 || n==2 || n==3

set_option maxHeartbeats 4000000 in
theorem o_p5 (s k:Nat) (s1:1≤s) (s5:s≤5) (hk:k≤1023):Eqn Tryz.prog o_kk [.d (.int .i64 s),.d (.int .i64 k)] [] (.tup [.d (plD (placeY s k)),.d (.int .i64 0)]) []:=by
 refine ⟨Nat.le_refl _,by simp,rfl,by simp,fun m vs mb hargs _ _ htop=>.inr ⟨o_6j o_km _ _,?_⟩⟩
 obtain ⟨v0,_,rfl,hv0,hargs⟩:=V.reps_cons'.1 hargs
 obtain ⟨v1,_,rfl,hv1,hargs⟩:=V.reps_cons'.1 hargs
 simp at hargs;subst hargs
 have htop:∀n,0≤n→m.ρ n=none:=fun n _=>htop n (Nat.zero_le _)
 obtain ⟨f10,a1,a2,a3,a4,asg,bd,g,ps,id,ops,hf,hb,e1,e2,e3,e4,eg,eps,easg,ebd,e5,ecalm,ers,ent⟩:=o_or at_s
 simp only at hb e1 e2 e3 e4 eg eps easg ebd e5 ecalm ers ent
 rw [Bool.and_eq_true,Bool.and_eq_true] at ecalm
 obtain ⟨calA,calB,calO⟩:=ecalm
 have eps:ps = #[24,25]:=by rw [←Array.toArray_toList (xs:=ps),eps]
 subst eps
 refine (callsIn_wide (n:=1)).1 (callsIn_of_wp_marks hf hb trivial ?_ rfl)
 have hsize:f10.ntmps-2=29:=by rw [ent]
 have sat0:Sat m { tmps:=#[v0,v1]++Array.replicate (f10.ntmps - #[v0,v1].size) undef,defers:=[] } ([.d (.int .i64 s),.d (.int .i64 k)]++List.replicate 29 .junk) []:=by
  refine ⟨mb,fun i=>?_,by simp,fun n k b ln=>by simp [live] at ln,fun n _=>htop n (Nat.zero_le _),by simp [ent],rfl⟩
  rcases i with _ | _ | i
  ·show V.rep m (.d (.int .i64 s)) _
   rw [Array.getD_eq_getD_getElem?,Array.getElem?_append_left (by simp)]
   exact hv0
  ·show V.rep m (.d (.int .i64 k)) _
   rw [Array.getD_eq_getD_getElem?,Array.getElem?_append_left (by simp)]
   exact hv1
  ·have:([V.d (.int .i64 s),V.d (.int .i64 k)]++List.replicate 29 V.junk).getD (i+2) .junk = .junk:=o_p3 _ _ _ (by simp)
   rw [this]
   unfold V.rep
   trivial
 refine AW.then (L:=0) e1 (a_1 s k) sat0 (Mem.le.refl _ _) htop (by simp) fun T1 H1 m1 w1 hq st1 le1 _=>?_
 obtain ⟨m1',hw1,st1',le1',_⟩:=Sat.weaken (T1:=Ta0 s k) (H1:=[some (kO k),some zO]) (Weak.of hq.1 hq.2) st1 le1 htop (by simp)
 rw [←hw1]
 refine AW.then (L:=0) e2 (a_2 s k s1 s5 hk) st1' le1' htop (by simp) fun T2 H2 m2 w2 hq st2 le2 _=>?_
 obtain ⟨m2',hw2,st2',le2',_⟩:=Sat.weaken (T1:=Ta0 s k) (H1:=[some (kO k),some zO]) (Weak.of hq.1 hq.2) st2 le2 htop (by simp)
 rw [←hw2]
 refine AW.then (L:=0) e3 (a_3 s k) st2' le2' htop (by simp) fun T3 H3 m3 w3 hq st3 le3 _=>?_
 obtain ⟨m3',hw3,st3',le3',_⟩:=Sat.weaken (T1:=Ta s k .junk) (H1:=[some (kO k),some zO,some zO]) (Weak.of hq.1 hq.2) st3 le3 htop (by simp)
 rw [←hw3]
 refine wpIn_seq ?_
 refine AW.then (L:=0) e4 (a_4 s k) st3' le3' htop (by simp) fun T4 H4 m4' w4 hq st4 le4 _=>?_
 obtain ⟨m4,hw4,st4',le4',_⟩:=Sat.weaken (T1:=Ta s k (.fn (.func o_kn) [.p 3 0])) (H1:=[some (kO k),some zO,some zO,some (sO s)]) (Weak.of hq.1 hq.2) st4 le4 htop (by simp)
 rw [←hw4]
 clear hw1 hw2 hw3 hw4 st1 st2 st3 st4 st1' st2' st3' le1 le2 le3 le4 le1' le2' le3' hq sat0
 refine wpIn_block (wpIn_rangeFunc fun fn' _=>?_)
 -- the function that is ranged over
 have gt3:(V.p 0 0).rep m4 (w4.tmps.getD 3 undef):=o_oz st4' (s:=3) rfl
 have gt6:(V.p 2 0).rep m4 (w4.tmps.getD 6 undef):=o_oz st4' (s:=6) rfl
 have gt23:(V.fn (.func o_kn) [.p 3 0]).rep m4 (w4.tmps.getD 23 undef):=o_oz st4' (s:=23) rfl
 unfold V.rep at gt23
 obtain ⟨cvs,hg23,hcv⟩:=gt23
 obtain ⟨sv,_,rfl,hsv,hcv⟩:=V.reps_cons'.1 hcv
 simp at hcv;subst hcv
 have hgt:g = .tmp 23:=by
  cases g<;>simp [X.of] at eg
  ·rw [eg]
  ·rename_i v;cases h:D.of1 v<;>simp [h] at eg
 have hgev:w4.eval g = .func (.func o_kn) #[] #[sv]:=by rw [hgt];exact hg23
 obtain ⟨rec,hrec⟩:∃rec:LoopState→Option Code→Loop,rec=fun st pe=>{ state:=st,pending:=pe,fn:=fn',tmps:=w4.tmps,params:=#[24,25],assign:=asg,body:=bd,defers:=m4.w.heap.size }:=⟨_,rfl⟩
 obtain ⟨W1,hW1⟩:∃W1,W1=(m4.w.alloc (.deferred (some []))).alloc (.loop (rec .ready none)):=⟨_,rfl⟩
 have hl1:W1.heap[m4.w.heap.size+1]?=some (.loop (rec .ready none)):=by
  rw [hW1];have:=World.alloc_heap_new (m4.w.alloc (.deferred (some []))) (.loop (rec .ready none));rwa [World.size_alloc] at this
 have hd1:W1.heap[m4.w.heap.size]?=some (.deferred (some [])):=by
  rw [hW1];exact (Below.heap_alloc _ _ _ (by simp)).trans (World.alloc_heap_new m4.w _)
 have satw:Sat (m4.at W1) w4 (Ta s k (.fn (.func o_kn) [.p 3 0])) [some (kO k),some zO,some zO,some (sO s)]:=by
  rw [hW1];exact (st4'.grow _).grow _
 have lew:m.le (m4.at W1) (· < 0):=by
  rw [hW1];exact (le4'.grow st4'.base _).grow (st4'.grow _).base _
 have loD:(m4.at W1).loose m4.w.heap.size:=by
  rw [hW1];exact (o_6h st4'.base _).grow _
 have loL:(m4.at W1).loose (m4.w.heap.size+1):=by
  rw [hW1]
  have:=o_6h (st4'.grow (.deferred (some []))).base (.loop (rec .ready none))
  simpa using this
 have hb4:m.w.heap.size≤m4.w.heap.size:=le4'.size
 have hrep1:∀x v,V.rep m4 x v→V.rep (m4.at W1) x v:=fun x v h=>by
  rw [hW1]
  exact V.rep_off (m:=m4) (m':=m4.at ((m4.w.alloc (.deferred (some []))).alloc (.loop (rec .ready none)))) ⟨rfl,rfl,fun b hb=>(Below.heap_alloc _ _ _ (by simp;have:=st4'.base.imm b hb;omega)).trans (Below.heap_alloc _ _ _ (st4'.base.imm b hb)),fun n b hb=>(Below.heap_alloc _ _ _ (by simp;have:=st4'.base.dom n b hb;omega)).trans (Below.heap_alloc _ _ _ (st4'.base.dom n b hb))⟩ x v h
 generalize hLn:m4.w.heap.size+1=l at *
 generalize hDn:m4.w.heap.size=dd at *
 refine ⟨l,[{ target:=.collected dd,args:=#[] }],W1,{ target:=.fn (.func o_kn) #[sv],args:=#[.func (.yield l) #[] #[]] },W1,o_kn,#[.func (.yield l) #[] #[],sv],W1,?_,?_,fun _ _=>trivial,?_,fun h=>by simp [Fence.wide] at h,?_⟩
 ·have:=run_enterLoop_outer (P:=Tryz.prog) (w:=m4.w) fn' w4.tmps #[24,25] asg bd
  rw [hW1,hrec,←hLn,←hDn]
  exact this
 ·simp only [Go.resolve,hgev]
  simp [go_sem,Deferred.ofValue]
 ·simp [invoke,go_sem]
 refine callsIn_wide.2 ?_
 -- the memory that the walk sees
 have cutr:∀n,SC n=true→((m4.at W1).cut SC).ρ n=m4.ρ n:=fun n h=>by simp [h]
 have cobj:∀(n:Nat) (ty:TypeId) (ds:List D),SC n=true→(m4.at W1).obj n ⟨ty,ds.map V.d⟩→((m4.at W1).cut SC).obj n ⟨ty,ds.map V.d⟩:=by
  rintro n ty ds hn ⟨b,vs,more,h1,h2,h3,h4,h5⟩
  exact ⟨b,vs,more,by rw [cutr n hn];exact h1,h2,h3,o_p0 (m:=m4.at W1) (m':=(m4.at W1).cut SC) rfl rfl (show V.reps (m4.at W1) (ds.map V.d) vs from h4),h5⟩
 have prep:∀n o v,SC n=true→(V.p n o).rep (m4.at W1) v→(V.p n o).rep ((m4.at W1).cut SC) v:=by
  intro n o v hn h
  unfold V.rep at h ⊢
  obtain ⟨b,h1,h2⟩:=h
  exact ⟨b,by rw [cutr n hn];exact h1,h2⟩
 have loC:((m4.at W1).cut SC).loose l:=by
  refine ⟨loL.lt,fun n h=>?_,loL.I⟩
  simp only at h
  split at h
  ·exact loL.ρ n h
  ·cases h
 have lv:∀n,live [some (kO k),none,some zO,some (sO s)] n→SC n=true:=fun n h=>by
  rcases n with _ | _ | _ | _ | n<;>first | rfl | (simp [live] at h)
 have hwalk:=o_p2 (m:=(m4.at W1).cut SC) (l:=l) (sv:=sv) easg ebd calA calB hrec s k s1 s5 hk
  (fun a ha hd=>o_p4 (H:=[some (kO k),none,some zO,some (sO s)]) (Mem.cut_base satw.base SC) (fun n ob h=>by
   rcases n with _ | _ | _ | _ | n
   ·simp at h;subst h;exact cobj 0 _ [.int .i64 k] rfl (satw.obj 0 _ rfl)
   ·simp at h
   ·simp at h;subst h;exact cobj 2 _ zD rfl (satw.obj 2 _ rfl)
   ·simp at h;subst h;exact cobj 3 _ [.int .i64 s] rfl (satw.obj 3 _ rfl)
   ·simp at h) (fun n k' b h1 h2 h3 h4=>by
    have l1:=lv n h1
    have l2:=lv k' h2
    rw [cutr n l1] at h3;rw [cutr k' l2] at h4
    refine satw.inj n k' b ?_ ?_ h3 h4
    ·rcases n with _ | _ | _ | _ | n<;>first | rfl | (simp [live] at h1)
    ·rcases k' with _ | _ | _ | _ | k'<;>first | rfl | (simp [live] at h2)) (fun n h=>by
    have h4:¬SC n=true:=by simp [SC];simp at h;omega
    simp [h4]) (prep 3 0 sv rfl (hrep1 _ _ hsv)) ha hd)
  (prep 0 0 _ rfl (hrep1 _ _ gt3)) (prep 2 0 _ rfl (hrep1 _ _ gt6)) (by rw [satw.size];rfl) loC hl1
 refine hwalk.mono ?_
 rintro e w5 ⟨⟨v,rfl⟩,m5,rfl,b5,o5,le5⟩
 obtain ⟨loC5,hl5⟩:=(loC.put (.loop (rec .done (some (.exit 1))))).keep le5
 have hl5':=hl5.trans (World.putObj_heap_same loC.lt)
 have hrd:∀st pe,(rec st pe).state=st∧(rec st pe).pending=pe:=fun st pe=>by rw [hrec];exact ⟨rfl,rfl⟩
 have hend:=run_endLoop (P:=Tryz.prog) hl5' (by rw [(hrd _ _).1];simp)
 rw [(hrd _ _).2] at hend
 obtain ⟨o6,hend⟩:∃o6,(Instr.endLoop l).run Tryz.prog m5.w = .ok (some (.exit 1)) (m5.w.putObj l o6):=⟨_,hend⟩
 refine ⟨_,_,hend,wpIn_exit ?_⟩
 -- back in the asker
 have hu:=Mem.uncut (m:=(m4.at W1).at (W1.putObj l (.loop (rec .done (some (.exit 1)))))) (S:=SC) le5 (fun n h=>by simp [SC] at h;omega)
 have lo5:(⟨m4.ρ,m5.I,m5.w⟩:Mem).loose l:=((loL.put (.loop (rec .done (some (.exit 1))))).keep hu).1
 have loD5:=(Mem.loose.keep (m:=(m4.at W1).at (W1.putObj l (.loop (rec .done (some (.exit 1)))))) (l:=dd) ⟨by simpa using loD.lt,loD.ρ,loD.I⟩ hu)
 have hne:dd≠l:=by omega
 have hd5:m5.w.heap[dd]?=some (.deferred (some [])):=loD5.2.trans ((World.putObj_heap_other hne).trans hd1)
 have obj2:(⟨m4.ρ,m5.I,m5.w⟩:Mem).obj 2 (plO ((plC (placeY s k)).map V.d)):=by
  obtain ⟨b,vs,more,h1,h2,h3,h4,h5⟩:=o5
  obtain ⟨b',hb'⟩:=o_ov (satw.obj 2 _ rfl)
  have:=le5.ρ 2 b' (by show (if SC 2=true then m4.ρ 2 else none)=some b';rw [if_pos (show SC 2=true from rfl)];exact hb')
  rw [h1] at this
  cases this
  exact ⟨b,vs,more,hb',h2,h3,o_p0 (m:=m5) (m':=⟨m4.ρ,m5.I,m5.w⟩) rfl rfl (show V.reps m5 ((plC (placeY s k)).map V.d) vs from h4),h5⟩
 have sat5:Sat ⟨m4.ρ,m5.I,m5.w⟩ w4 (Ta s k (.fn (.func o_kn) [.p 3 0])) [none,some zO,some (plO ((plC (placeY s k)).map V.d)),none]:=by
  refine Sat.uncut (m:=(m4.at W1).at (W1.putObj l (.loop (rec .done (some (.exit 1)))))) (loL.sat (.loop (rec .done (some (.exit 1)))) satw) b5 hu (fun n h=>?_) rfl fun n ob h=>?_
  ·simp [SC] at h
   rcases h with (rfl | rfl) | rfl<;>rfl
  ·rcases n with _ | _ | _ | _ | n
   ·simp at h
   ·right;simp at h;subst h;exact ⟨rfl,rfl⟩
   ·left;simp at h;subst h;exact ⟨rfl,obj2⟩
   ·simp at h
   ·simp at h
 have le5':m.le ⟨m4.ρ,m5.I,m5.w⟩ (· < 0):=by
  refine Mem.le.trans (lew.far mb (l:=l) (by omega) (.loop (rec .done (some (.exit 1))))) hu fun n b h _=>?_
  rw [htop n (Nat.zero_le _)] at h;cases h
 have sat6:=lo5.sat o6 sat5
 have le6:=le5'.far mb (l:=l) (by omega) o6
 have hd6:(m5.w.putObj l o6).heap[dd]?=some (.deferred (some [])):=(World.putObj_heap_other hne).trans hd5
 have loD6:((⟨m4.ρ,m5.I,m5.w⟩:Mem).at (m5.w.putObj l o6)).loose dd:=⟨by simpa using loD5.1.lt,loD5.1.ρ,loD5.1.I⟩
 show (Code.seq (.region id ops false) .ret).wpIn Fence.wide 1 _ _ _ _
 refine wpIn_seq (o_6i ?_)
 have hops:ops.toList=ops.toList++[]:=(List.append_nil _).symm
 rw [hops]
 refine o_6d (D:=[{ target:=.collected dd,args:=#[] }]) (Q:=fun e a w=>e = .normal∧∃T' H' m',m'.w=w∧Sat m' a T' H'∧T'.getD 4 .junk = .p 1 0∧T'.getD 5 .junk = .d (.int .i64 0)∧H'=[none,some (plO ((plC (placeY s k)).map V.d)),some (plO ((plC (placeY s k)).map V.d)),none]∧m.le m' (· < 0)∧((⟨m4.ρ,m5.I,m5.w⟩:Mem).at (m5.w.putObj l o6)).le m' (· < 4)) ?_ _ w4 _ _ ⟨rfl,by rw [st4'.defers];rfl⟩ ?_
 ·rintro e a a' w hbes ⟨rfl,T7,H7,m7,rfl,st7,h4,h5,rfl,le0,le7⟩
  refine wpIn_ret ?_
  have hdf:a'.defers=[{ target:=.collected dd,args:=#[] }]:=by rw [hbes.defers,st7.defers];rfl
  show LeavesInM _ _ _ _ _ _ a'.defers _ _
  rw [hdf,←hbes.tmps]
  obtain ⟨lo7,hl7⟩:=loD6.keep le7
  have hd7:=hl7.trans hd6
  refine ⟨by simp,.inl ⟨dd,_,rfl,run_takeDeferred hd7,?_⟩⟩
  have sat8:=lo7.sat (.deferred none) st7
  obtain ⟨v,hv1,hv2⟩:=o_5d (P:=Tryz.prog) sat8 f10 (.tup [.d (plD (placeY s k)),.d (.int .i64 0)]) (by
   rw [ers]
   simp only [outV,outs,RV.out,h4,h5]
   rfl)
  refine ⟨v,hv1,v,⟨fun _=>none,m7.I,m7.w.putObj dd (.deferred none)⟩,rfl,rfl,?_⟩
  have lem:=le0.far mb (l:=dd) (by omega) (.deferred none)
  refine ⟨⟨sat8.base.imm,fun n b h=>(by cases h),sat8.base.tabs.mono (fun _ h=>h) (fun _ _=>rfl)⟩,⟨fun n b h=>(by rw [htop n (Nat.zero_le _)] at h;cases h),lem.I,lem.os,lem.tape,lem.output,lem.drawn,lem.size,lem.block,lem.shape,lem.imm,lem.newI,fun n b h=>(by cases h)⟩,?_,by simp,by simp,fun _ _=>rfl,fun n b _ h=>(by cases h)⟩
  unfold V.rep at hv2 ⊢
  obtain ⟨us,h1,h2⟩:=hv2
  exact ⟨us,h1,o_p0 (ds:=[plD (placeY s k),.int .i64 0]) (m:=m7.at (m7.w.putObj dd (.deferred none))) rfl rfl h2⟩
 ·refine o_69 (l:=none) (L:=4) (m0:=(⟨m4.ρ,m5.I,m5.w⟩:Mem).at (m5.w.putObj l o6)) (m:=(⟨m4.ρ,m5.I,m5.w⟩:Mem).at (m5.w.putObj l o6)) (K:=fun T H=>T.getD 4 .junk = .p 1 0∧T.getD 5 .junk = .d (.int .i64 0)∧H=[none,some (plO ((plC (placeY s k)).map V.d)),some (plO ((plC (placeY s k)).map V.d)),none]) [] calO (by rw [e5];exact a_5 s k _ _ fun T h1 h2=>⟨h1,h2,rfl⟩) sat6 (Mem.le.refl _ _) sat6.top (by simp) fun T7 H7 a7 m7 hq st7 le7 _=>?_
  refine wpListIn_nil ⟨rfl,T7,H7,m7,rfl,st7,hq.1,hq.2.1,hq.2.2,?_,le7⟩
  refine Mem.le.trans le6 le7 fun n b h _=>?_
  rw [htop n (Nat.zero_le _)] at h;cases h

theorem Sub1.aggd {l r:List D} (h:Subs (l.map V.d) (r.map V.d)):Sub1 (.d (.agg l)) (.d (.agg r)):=fun m v k=>by
 rw [V.rep_d] at k ⊢
 unfold D.rep at k ⊢
 obtain ⟨vs,h1,h2,h3⟩:=k
 exact ⟨vs,h1,h2,V.reps_map_d.1 (h m vs (V.reps_map_d.2 h3))⟩
theorem Sub1.pl0 (e:D):Sub1 (.tup [.d (.agg [.int .i64 0,.int .i64 0,.nilsl,.nilsl]),.d e]) (.tup [.d (plD ⟨0,0,0,0⟩),.d e]) :=
 Sub1.tup (Subs.cons (Sub1.aggd (Subs.cons (Sub1.refl _) (Subs.cons (Sub1.refl _) (Subs.cons Sub1.nil (Subs.cons Sub1.nil (Subs.refl _)))))) (Subs.refl _))

theorem o_p6 (s k:Int):Eqn Tryz.prog o_kk [.d (.int .i64 s),.d (.int .i64 k)] [] (.tup [.d (plD (atP s k)),.d (.int .i64 (atE s k))]) []:=by
 by_cases hs:1≤s∧s≤5
 ·by_cases hk:0≤k∧k≤1023
  ·have e:atE s k=0:=by rw [atE,if_pos hs,if_pos hk]
   obtain ⟨s,rfl⟩:∃n:Nat,s=n:=⟨s.toNat,by omega⟩
   obtain ⟨k,rfl⟩:∃n:Nat,k=n:=⟨k.toNat,by omega⟩
   rw [atP,if_pos e,e]
   exact o_p5 s k (by omega) (by omega) (by omega)
  ·have e:atE s k=2:=by rw [atE,if_pos hs,if_neg hk]
   rw [atP,if_neg (by rw [e];omega),e]
   refine Eqn.pure o_km (o_lr _ _) ?_
   simp only [o_kl]
   refine G0 ?_;try with_reducible exact tt
   refine CallS.pu (o_of s) (R0 ?_);try with_reducible exact tt
   refine AW.cond rfl (fun h=>?_) (fun h=>?_)
   ·simp [hs] at h
   by_cases h0:k<0
   ·refine G1 h0 ?_;try with_reducible exact tt
    refine AW.cond rfl (fun h=>?_) (fun h=>?_)
    ·refine G0 ?_;try with_reducible exact tt
     exact Sub1.pl0 _
    ·simp [h0] at h
   ·have h1:1023<k:=by omega
    refine G1 (fs h0 h1) ?_;try with_reducible exact tt
    refine AW.cond rfl (fun h=>?_) (fun h=>?_)
    ·refine G0 ?_;try with_reducible exact tt
     exact Sub1.pl0 _
    ·simp [h0,h1] at h
 ·have e:atE s k=10:=by rw [atE,if_neg hs]
  rw [atP,if_neg (by rw [e];omega),e]
  refine Eqn.pure o_km (o_lr _ _) ?_
  simp only [o_kl]
  refine G0 ?_;try with_reducible exact tt
  refine CallS.pu (o_of s) (R0 ?_);try with_reducible exact tt
  refine AW.cond rfl (fun h=>?_) (fun h=>?_)
  ·refine G0 ?_;try with_reducible exact tt
   exact Sub1.pl0 _
  ·simp at h
   omega
end
section
open Go.RowKit
end
section
open Go.RowKit
theorem o_p7 {d k:Nat} (hd:d≤8) (hk:k≤1023):wrongZ d [(k:Int)]=0:=by
 rw [wrongZ,if_pos (by omega),if_pos]
 simp [okK];omega

theorem o_p8 (d k:Nat) (hd:d≤8) (hk:k≤1023) (hu:k/2^d<64) :
  Eqn Tryz.prog o_jh [.d (.int .i64 d),.d (.int .i64 k)] [] (.tup [.d (.agg [natW 1,.bool false,natW (2^(k/2^d)-1)]),.d (.int .i64 0)]) []:=by
 refine Eqn.pure o_jj (o_lr _ _) ?_
 refine cc (c':=?z49) ?_ ?_
 case refine_1=>cbv<;>exact rfl
 refine G0 ?_;try with_reducible exact tt
 refine CallS.pf 1 1 ⟨3,_⟩ [.int .i64 k] (o_mu d k) (by first | rfl | (simp;done)) (R0 ?_);try with_reducible exact tt
 have hw:=o_p7 hd hk
 refine AW.cond rfl (fun h=>?_) (fun h=>?_)
 ·simp [hw] at h
 have hp:=o_mt d k (by omega) (by omega)
 generalize k/2^d=u at hp hu ⊢
 refine G0 ?_;try with_reducible exact tt
 refine CallS.pu (hp) (R0 ?_);try with_reducible exact tt
 refine CallS.pu (o_mk u hu) (R0 ?_);try with_reducible exact tt

theorem o_p9 (cs:List Bool) (h:cs.length≤1048576):Eqn Tryz.prog o_91 [.d (BL cs)] [] (.p 0 0) [tapeO cs 0 false]:=by
 refine Eqn.new1 o_93 ⟨rfl,fun _=>rfl⟩ ?_
 refine cc (c':=?z50) ?_ ?_
 case refine_1=>cbv<;>exact rfl
 try simp only [BL]
 have e:min (cs.length:Int) 1048576=cs.length:=by omega
 have e2:List.take cs.length (cs.map D.bool)=cs.map D.bool:=List.take_of_length_le (by simp)
 refine G1 (fs e e2) ?_;try with_reducible exact tt
 refine CallS.pu (o_mn cs.length (cs.map .bool) (by simp) (by omega)) (R0 ?_);try with_reducible exact tt
 exact Subs.refl _

def p2 (n:Nat):Nat:=2^n
end
section
open Go.RowKit
theorem o_pa {s k:Int} (h:atE s k=0):1≤s∧s≤5∧0≤k∧k≤1023:=by
 unfold atE at h
 split at h
 ·split at h<;>omega
 ·omega
theorem o_pb {s k:Int} (h:atE s k=0):(atP s k).shift≤8192:=by
 have h1:=o_pa h
 rw [atP,if_pos h]
 exact (o_ox (s:=s.toNat) (k:=k.toNat) (by omega) (by omega) (by omega)).2.1
end
section
open Go.RowKit
theorem o_pc (x:Nat) (hx:x<18446744073709551616):Eqn Tryz.prog o_fw [.d (.int .u64 x)] [] (.d (.int .i64 (bitsN x))) []:=by
 refine Eqn.pure o_fy (o_5e _) ?_
 refine cc (c':=?z53) ?_ ?_
 case refine_1=>cbv<;>exact rfl
 refine G0 ?_;try with_reducible exact tt
 refine AW.cond rfl (fun h=>?_) (fun h=>?_)
 ·simp at h
 refine G0 ?_;try with_reducible exact tt
 refine CallS.pu (o_o3 x hx) (R0 ?_);try with_reducible exact tt

theorem o_pd (a w:Nat) (h1:1≤a) (h2:a≤4096) (w1:1≤w) (w2:w≤10) (hm:bitsN (a+1)*(2^w-1)≤8192):Eqn Tryz.prog o_f5 [.d (.agg [.int .i64 1,.int .i64 a,.int .i64 w])] [] (.d (.int .i64 0)) []:=by
 refine Eqn.pure o_f7 (o_5e _) ?_
 refine cc (c':=?z54) ?_ ?_
 case refine_1=>cbv<;>exact rfl
 have hk:=o_nj 1 a w
 rw [kindD,if_pos rfl] at hk
 have hg:=o_nh a
 rw [show decide (1≤(a:Int)∧(a:Int)≤4096)=true by simp;omega] at hg
 have g1:¬(w:Int)<1:=by omega
 have g2:¬(10:Int)<w:=by omega
 refine G0 ?_;try with_reducible exact tt
 refine CallS.pu (hk) (R1 (fs g1 g2) ?_);try with_reducible exact tt
 refine ⟨_,o_nb,?_⟩
 refine CallS.pu (hg) (R1 (fs g1 g2) ?_);try with_reducible exact tt
 refine AW.cond rfl (fun h=>?_) (fun h=>?_)
 ·simp [g1,g2] at h
 clear h
 have e1:IntKind.i64.wrap ((a:Int)+1)=((a+1:Nat):Int):=w64 (by omega) (by omega)
 have e2:IntKind.u64.wrap ((a+1:Nat):Int)=((a+1:Nat):Int):=wu64 (by omega) (by omega)
 have hb:=o_pc (a+1) (by omega)
 have hbl:bitsN (a+1)≤8192:=by
  refine Nat.le_trans (Nat.le_mul_of_pos_right _ ?_) hm
  have:=Nat.pow_le_pow_right (n:=2) (by omega) w1
  omega
 have h2':0<2^w:=Nat.two_pow_pos w
 have h2:2^w≤1024:=Nat.pow_le_pow_right (n:=2) (by omega) w2
 have e0:(2:Int)^w=(2^w:Nat):=by rw [Int.natCast_pow];rfl
 generalize 2^w=S at *
 generalize bitsN (a+1)=B at *
 generalize a+1=a1 at *
 have e3:IntKind.i64.wrap (S:Int)=S:=w64 (by omega) (by omega)
 have e4:IntKind.i64.wrap ((S:Int)-1)=((S-1:Nat):Int):=by rw [w64 (by omega) (by omega)];omega
 have e5:IntKind.i64.wrap ((B:Int)*((S-1:Nat):Int))=((B*(S-1):Nat):Int):=by
  rw [←Int.natCast_mul]
  generalize B*(S-1)=x at *
  exact w64 (by omega) (by omega)
 have g3:¬(8192:Int)<((B*(S-1):Nat):Int):=by omega
 generalize hS1:S-1=S1 at *
 obtain ⟨x,hx⟩:∃x,x=B*S1:=⟨_,rfl⟩
 rw [←hx] at e5 g3
 refine G1 (fs e1 e2) ?_;try with_reducible exact tt
 refine CallS.pu (hb) (R1 (fs e0 (fs e3 (fs e4 (fs e5 g3)))) ?_);try with_reducible exact tt
 refine AW.cond rfl (fun h=>?_) (fun h=>?_)
 ·simp [g3] at h
 refine G0 ?_;try with_reducible exact tt

theorem o_pe (a:Int):Eqn Tryz.prog o_k2 [.d (.int .i64 a)] [] (.d (.bool (decide (1≤a∧a≤5)))) []:=by
 refine Eqn.pure o_k4 (o_5e _) ?_
 refine cc (c':=?z55) ?_ ?_
 case refine_1=>cbv<;>exact rfl
 refine G0 ?_;try with_reducible exact tt
 refine CallS.pu (o_of a) (R0 ?_);try with_reducible exact tt

theorem o_pf (a w:Nat) (h2:a≤8) (w1:1≤w) (w2:w≤10):Eqn Tryz.prog o_f5 [.d (.agg [.int .i64 2,.int .i64 a,.int .i64 w])] [] (.d (.int .i64 0)) []:=by
 refine Eqn.pure o_f7 (o_5e _) ?_
 refine cc (c':=?z56) ?_ ?_
 case refine_1=>cbv<;>exact rfl
 have hk:=o_nj 2 a w
 rw [kindD,if_neg (by omega),if_pos rfl] at hk
 have hg:=o_ni a
 rw [show decide (0≤(a:Int)∧(a:Int)≤8)=true by simp;omega] at hg
 have g1:¬(w:Int)<1:=by omega
 have g2:¬(10:Int)<w:=by omega
 refine G0 ?_;try with_reducible exact tt
 refine CallS.pu (hk) (R1 (fs g1 g2) ?_);try with_reducible exact tt
 refine ⟨_,o_nc,?_⟩
 refine CallS.pu (hg) (R1 (fs g1 g2) ?_);try with_reducible exact tt
 refine AW.cond rfl (fun h=>?_) (fun h=>?_)
 ·simp [g1,g2] at h
 clear h
 refine G0 ?_;try with_reducible exact tt
 refine AW.cond rfl (fun h=>?_) (fun h=>?_)
 ·simp at h
 refine G0 ?_;try with_reducible exact tt
theorem o_pg (a w:Nat) (h1:1≤a) (h2:a≤5) (w1:1≤w) (w2:w≤10):Eqn Tryz.prog o_f5 [.d (.agg [.int .i64 3,.int .i64 a,.int .i64 w])] [] (.d (.int .i64 0)) []:=by
 refine Eqn.pure o_f7 (o_5e _) ?_
 refine cc (c':=?z57) ?_ ?_
 case refine_1=>cbv<;>exact rfl
 have hk:=o_nj 3 a w
 rw [kindD,if_neg (by omega),if_neg (by omega),if_pos rfl] at hk
 have hg:=o_pe a
 rw [show decide (1≤(a:Int)∧(a:Int)≤5)=true by simp;omega] at hg
 have g1:¬(w:Int)<1:=by omega
 have g2:¬(10:Int)<w:=by omega
 refine G0 ?_;try with_reducible exact tt
 refine CallS.pu (hk) (R1 (fs g1 g2) ?_);try with_reducible exact tt
 refine ⟨_,o_nd,?_⟩
 refine CallS.pu (hg) (R1 (fs g1 g2) ?_);try with_reducible exact tt
 refine AW.cond rfl (fun h=>?_) (fun h=>?_)
 ·simp [g1,g2] at h
 clear h
 refine G0 ?_;try with_reducible exact tt
 refine AW.cond rfl (fun h=>?_) (fun h=>?_)
 ·simp at h
 refine G0 ?_;try with_reducible exact tt
end
section
open Go.RowKit
def parD (k a w:Int):D:=.agg [.int .i64 k,.int .i64 a,.int .i64 w]
theorem o_ph (k a:Int) (w:Nat) (w2:w≤10) (hc:Eqn Tryz.prog o_f5 [.d (parD k a w)] [] (.d (.int .i64 0)) []):Eqn Tryz.prog o_cj [.d (parD k a w)] [] (.d (.int .i64 (2^w-1:Nat))) []:=by
 refine Eqn.pure o_cl (o_5e _) ?_
 refine cc (c':=?z58) ?_ ?_
 case refine_1=>cbv<;>exact rfl
 try simp only [parD] at hc ⊢
 have h2':0<2^w:=Nat.two_pow_pos w
 have h2:2^w≤1024:=Nat.pow_le_pow_right (n:=2) (by omega) w2
 have e0:(2:Int)^w=(2^w:Nat):=by rw [Int.natCast_pow];rfl
 generalize 2^w=S at *
 have e3:IntKind.i64.wrap (S:Int)=S:=w64 (by omega) (by omega)
 have e4:IntKind.i64.wrap ((S:Int)-1)=((S-1:Nat):Int):=by rw [w64 (by omega) (by omega)];omega
 generalize S-1=S1 at *
 refine G0 ?_;try with_reducible exact tt
 refine CallS.pu (hc) (R0 ?_);try with_reducible exact tt
 refine AW.cond rfl (fun h=>?_) (fun h=>?_)
 ·simp at h
 refine G1 (fs e0 (fs e3 e4)) ?_;try with_reducible exact tt

theorem o_pi (k a:Int) (w:Nat) (w2:w≤10) (x:Int) (h0:0≤x) (h1:x≤(2^w-1:Nat)) (hc:Eqn Tryz.prog o_f5 [.d (parD k a w)] [] (.d (.int .i64 0)) []):Eqn Tryz.prog o_c7 [.d (parD k a w),.d (.sl 1 [.int .i64 x])] [] (.d (.int .i64 0)) []:=by
 refine Eqn.pure o_c9 (o_5e _) ?_
 have ht:=o_ph k a w w2 hc
 refine cc (c':=?z59) ?_ ?_
 case refine_1=>cbv<;>exact rfl
 try simp only [parD] at hc ht ⊢
 generalize 2^w-1=S at *
 refine G0 ?_;try with_reducible exact tt
 refine CallS.pu (hc) (R0 ?_);try with_reducible exact tt
 refine AW.cond rfl (fun h=>?_) (fun h=>?_)
 ·simp at h
 refine G0 ?_;try with_reducible exact tt
 refine AW.loopT (α:=Nat) 1 (fun i=>[(15,.d (.int .i64 (i:Int)))]) (fun i=>[]) (fun i=>i≤1) (fun i=>1-i) 0 ?_ ?_ (Nat.zero_le _) ?_ ?_ ?_
 ·simp
 ·simp
 ·simp
 ·simp
 rintro i hi
 simp
 have g1:¬x<0:=by omega
 have g2:¬(S:Int)<x:=by omega
 by_cases h:i=1
 ·subst h
  refine G0 ?_;try with_reducible exact tt
  refine AW.cond rfl (fun h=>?_) (fun h=>?_)
  ·simp at h
  refine AW.exit ?_
  (try (simp -implicitDefEqProofs;try simp (disch:=omega) only [w64,wu64]))
  refine G0 ?_;try with_reducible exact tt
 ·obtain rfl:i=0:=by omega
  refine G0 ?_;try with_reducible exact tt
  refine AW.cond rfl (fun h=>?_) (fun h=>?_)
  ·refine G1 (fs g1 g2) ?_;try with_reducible exact tt
   refine CallS.pu (ht) (R1 (fs g1 g2) ?_);try with_reducible exact tt
   refine AW.cond rfl (fun h=>?_) (fun h=>?_)
   ·simp [g1,g2] at h
   have ew:IntKind.i64.wrap 1=1:=w64 (by omega) (by omega)
   refine G1 ew ?_;try with_reducible exact tt
   exact ⟨1,by omega,by omega,by simp⟩
  ·simp at h
end
section
open Go.RowKit
theorem o_pj (cs:List Bool) (a k:Int) (p:Nat) (dd:Bool) (hp:p≤cs.length) (hn:cs.length≤4000000) :
  Eqn Tryz.prog o_i2 [.d (.int .i64 a),.p 0 0,.d (.int .i64 k)] [tapeO cs p dd] (.tup [.d (.bool (stepM cs a k p dd).1),.d (.int .i64 (stepM cs a k p dd).2.1)]) [tapeO cs (stepM cs a k p dd).2.2.1 (stepM cs a k p dd).2.2.2]:=by
 refine Eqn.obj1 o_i4 (o_lr _ _) ⟨rfl,fun _=>rfl⟩ ?_
 refine cc (c':=?z60) ?_ ?_
 case refine_1=>cbv<;>exact rfl
 have hh:=o_na cs a k p dd hp hn
 generalize stepM cs a k p dd=R at *
 obtain ⟨R1,R2,R3,R4⟩:=R
 simp only at hh ⊢
 refine G0B ?_;try with_reducible exact tt
 refine CallS.o1 0 (hh) (R0B ?_);try with_reducible exact tt

theorem o_pk {T1 t2 ti : TypeId} {d : D} {g : FuncId} {cs : List Bool} {k : Int} {p : Nat} {dd r1 : Bool} {r2 : Int} {r3 : Nat} {r4 : Bool} (hm : MethOK Tryz.prog ti "tallymark/chain.step" g) (h1 : T1 < 1000000) (h2 : t2 < 1000000)
  (E:Eqn Tryz.prog g [.d d,.p 0 0,.d (.int .i64 k)] [tapeO cs p dd] (.tup [.d (.bool r1),.d (.int .i64 r2)]) [tapeO cs r3 r4]) :
  Eqn Tryz.prog o_cg [.d (.int .i64 k),.p 1 0,.p 2 0] [tapeO cs p dd,⟨T1,[.d (.ifc ti d)]⟩,⟨t2,[.p 0 0]⟩] (.tup [.d (.bool r1),.d (.int .i64 r2)]) [tapeO cs r3 r4,⟨T1,[.d (.ifc ti d)]⟩,⟨t2,[.p 0 0]⟩]:=by
 refine Eqn.obj3 o_ci (o_lr _ _) ⟨rfl,fun _=>rfl⟩ ⟨rfl,fun _=>rfl⟩ ?_
 refine cc (c':=?z61) ?_ ?_
 case refine_1=>cbv<;>exact rfl
 refine G1B (fs h1 h2) ?_;try with_reducible exact tt
 refine ⟨_,hm,?_⟩
 refine CallS.o1 0 (E) (R1B (fs h1 h2) ?_);try with_reducible exact tt
end
section
open Go.RowKit
theorem o_pl {T1 t2 ti:TypeId} (h1:T1<1000000) (h2:t2<1000000) {d:D} {cs:List Bool} {p:Nat} {dd:Bool} (k a:Int) (w:Nat) (w2:w≤10) (full:Bool) (hc:Eqn Tryz.prog o_f5 [.d (parD k a w)] [] (.d (.int .i64 0)) []) :
  Eqn Tryz.prog o_cd [.d (parD k a w),.d (.agg [.int .i64 (2^w-1:Nat),.bool full]),.fn (.func o_cg) [.p 1 0,.p 2 0]] [tapeO cs p dd,⟨T1,[.d (.ifc ti d)]⟩,⟨t2,[.p 0 0]⟩] (.tup [.d (.agg [.int .i64 (2^w-1:Nat),.bool true]),.d (.int .i64 0)]) [tapeO cs p dd,⟨T1,[.d (.ifc ti d)]⟩,⟨t2,[.p 0 0]⟩]:=by
 refine Eqn.obj3 o_cf (o_lr _ _) ⟨rfl,fun _=>rfl⟩ ⟨rfl,fun _=>rfl⟩ ?_
 have ht:=o_ph k a w w2 hc
 refine cc (c':=?z62) ?_ ?_
 case refine_1=>cbv<;>exact rfl
 try simp only [parD] at ht ⊢
 generalize 2^w-1=S at *
 refine G1B (fs h1 h2) ?_;try with_reducible exact tt
 refine CallS.pu (ht) (R1B (fs h1 h2) ?_);try with_reducible exact tt
 refine AW.cond rfl (fun h=>?_) (fun h=>?_)
 ·clear h
  refine G1B (fs h1 h2) ?_;try with_reducible exact tt
 ·simp at h

theorem o_pm {T1 t2 ti:TypeId} (h1:T1<1000000) (h2:t2<1000000) {d:D} {g:FuncId} {cs:List Bool} {x p:Nat} {dd r1:Bool} {r2:Int} {r3:Nat} {r4:Bool} (k a:Int) (w:Nat) (w2:w≤10) (full:Bool) (hx:x<2^w-1) (hc:Eqn Tryz.prog o_f5 [.d (parD k a w)] [] (.d (.int .i64 0)) [])
  (hm : MethOK Tryz.prog ti "tallymark/chain.step" g) (E : Eqn Tryz.prog g [.d d, .p 0 0, .d (.int .i64 x)] [tapeO cs p dd] (.tup [.d (.bool r1), .d (.int .i64 r2)]) [tapeO cs r3 r4]) :
  Eqn Tryz.prog o_cd [.d (parD k a w),.d (.agg [.int .i64 x,.bool full]),.fn (.func o_cg) [.p 1 0,.p 2 0]] [tapeO cs p dd,⟨T1,[.d (.ifc ti d)]⟩,⟨t2,[.p 0 0]⟩] (.tup [.d (.agg [.int .i64 (if r1 then x+1 else x:Nat),.bool full]),.d (.int .i64 r2)]) [tapeO cs r3 r4,⟨T1,[.d (.ifc ti d)]⟩,⟨t2,[.p 0 0]⟩]:=by
 refine Eqn.obj3 o_cf (o_lr _ _) ⟨rfl,fun _=>rfl⟩ ⟨rfl,fun _=>rfl⟩ ?_
 have ht:=o_ph k a w w2 hc
 have h5:2^w-1≤1023:=by have:=Nat.pow_le_pow_right (n:=2) (by omega) w2;omega
 refine cc (c':=?z63) ?_ ?_
 case refine_1=>cbv<;>exact rfl
 try simp only [parD] at ht ⊢
 generalize 2^w-1=S at *
 have g1:¬x=S:=by omega
 have g2:¬(x:Int)=S:=by omega
 have ew:IntKind.i64.wrap ((x:Int)+1)=(x:Int)+1:=w64 (by omega) (by omega)
 have ha:=o_pk (T1:=T1) (t2:=t2) hm h1 h2 E
 refine G1B (fs h1 h2) ?_;try with_reducible exact tt
 refine CallS.pu (ht) (R1B (fs h1 h2) ?_);try with_reducible exact tt
 refine AW.cond rfl (fun h=>?_) (fun h=>?_)
 ·simp [g1,g2] at h
 clear h
 refine G1B (fs h1 h2) ?_;try with_reducible exact tt
 refine CallS.obj3 0 1 2 (ha) (by first | exact o_5e _ | exact o_lr _ _ | exact o_ls _ _ _) ⟨rfl,fun _=>rfl⟩ ⟨rfl,fun _=>rfl⟩ ⟨rfl,fun _=>rfl⟩ rfl (by rfl) (by rfl) (by rfl) (by decide) (Subs.of (by simp)) (R1B (fs h1 h2) ?_);try with_reducible exact tt
 cases r1 with
 | true =>
  refine AW.cond rfl (fun h=>?_) (fun h=>?_)
  ·refine G1B (fs ew (fs h1 h2)) ?_;try with_reducible exact tt
  ·simp at h
 | false =>
  refine AW.cond rfl (fun h=>?_) (fun h=>?_)
  ·simp at h
  ·refine G1B (fs ew (fs h1 h2)) ?_;try with_reducible exact tt
end
section
open Go.RowKit
def stepG (cs:List Bool) (d k:Int) (p:Nat) (dd:Bool):Bool×Int×Nat×Bool:=if wrongZ d [k]=0 then halfR cs (k.toNat/2^d.toNat) p dd else (false,wrongZ d [k],p,dd)

theorem o_pn (cs:List Bool) (d k:Int) (p:Nat) (dd:Bool) (hp0:p≤cs.length) (hn:cs.length≤4000000) :
  Eqn Tryz.prog o_jn [.p 0 0,.d (.int .i64 d),.d (.int .i64 k)] [tapeO cs p dd] (.tup [.d (.bool (stepG cs d k p dd).1),.d (.int .i64 (stepG cs d k p dd).2.1)]) [tapeO cs (stepG cs d k p dd).2.2.1 (stepG cs d k p dd).2.2.2]:=by
 refine Eqn.obj1 o_jp (o_lr _ _) ⟨rfl,fun _=>rfl⟩ ?_
 refine cc (c':=?z64) ?_ ?_
 case refine_1=>cbv<;>exact rfl
 refine G0B ?_;try with_reducible exact tt
 refine CallS.pf 1 1 ⟨3,_⟩ [.int .i64 k] (o_mu d k) (by first | rfl | (simp;done)) (R0 ?_);try with_reducible exact tt
 by_cases h:wrongZ d [k]=0
 ·obtain ⟨h1,h2,h3,h4⟩:=o_mw h
  obtain ⟨d,rfl⟩:∃n:Nat,d=n:=⟨d.toNat,by omega⟩
  obtain ⟨k,rfl⟩:∃n:Nat,k=n:=⟨k.toNat,by omega⟩
  simp only [stepG,h,if_true]
  have hpt:=o_mt d k (by omega) (by omega)
  have hu:k/2^d≤k:=Nat.div_le_self _ _
  simp only [Int.toNat_natCast]
  generalize k/2^d=u at hpt hu ⊢
  generalize partV d k=v at hpt
  refine AW.cond rfl (fun h=>?_) (fun h=>?_)
  ·simp [*] at h
  refine G0 ?_;try with_reducible exact tt
  refine CallS.pu (hpt) (R0 ?_);try with_reducible exact tt
  have hh:=o_mq cs p dd u (by omega) hp0 hn
  rw [Int.toNat_natCast] at hh
  generalize halfR cs u p dd=r at hh ⊢
  obtain ⟨r1,r2,r3,r4⟩:=r
  simp only at hh ⊢
  refine CallS.o1 0 (hh) (R0 ?_);try with_reducible exact tt
 ·simp only [stepG,h,if_false]
  refine AW.cond rfl (fun h=>?_) (fun h=>?_)
  ·refine G0 ?_;try with_reducible exact tt
  ·simp [*] at h


theorem o_po (cs:List Bool) (a k:Int) (p:Nat) (dd:Bool) (hp:p≤cs.length) (hn:cs.length≤4000000) :
  Eqn Tryz.prog o_jb [.d (.int .i64 a),.p 0 0,.d (.int .i64 k)] [tapeO cs p dd] (.tup [.d (.bool (stepG cs a k p dd).1),.d (.int .i64 (stepG cs a k p dd).2.1)]) [tapeO cs (stepG cs a k p dd).2.2.1 (stepG cs a k p dd).2.2.2]:=by
 refine Eqn.obj1 o_jd (o_lr _ _) ⟨rfl,fun _=>rfl⟩ ?_
 refine cc (c':=?z65) ?_ ?_
 case refine_1=>cbv<;>exact rfl
 have hh:=o_pn cs a k p dd hp hn
 generalize stepG cs a k p dd=R at *
 obtain ⟨R1,R2,R3,R4⟩:=R
 simp only at hh ⊢
 refine G0B ?_;try with_reducible exact tt
 refine CallS.o1 0 (hh) (R0B ?_);try with_reducible exact tt
def stepYG (cs:List Bool) (s k:Int) (q:Nat) (dd:Bool):Bool×Int×Nat×Bool:=if atE s k=0 then halfR cs (atP s k).shift q dd else (false,atE s k,q,dd)
theorem o_pp (cs:List Bool) (s k:Int) (q:Nat) (dd:Bool) (hp0:q≤cs.length) (hn:cs.length≤4000000) :
  Eqn Tryz.prog o_kh [.p 0 0,.d (.int .i64 s),.d (.int .i64 k)] [tapeO cs q dd] (.tup [.d (.bool (stepYG cs s k q dd).1),.d (.int .i64 (stepYG cs s k q dd).2.1)]) [tapeO cs (stepYG cs s k q dd).2.2.1 (stepYG cs s k q dd).2.2.2]:=by
 refine Eqn.obj1 o_kj (o_lr _ _) ⟨rfl,fun _=>rfl⟩ ?_
 refine cc (c':=?z66) ?_ ?_
 case refine_1=>cbv<;>exact rfl
 have ha:=o_p6 s k
 have hsh:=o_pb (s:=s) (k:=k)
 have hst:stepYG cs s k q dd=if atE s k=0 then halfR cs (atP s k).shift q dd else (false,atE s k,q,dd):=rfl
 rw [hst]
 clear hst
 generalize atP s k=p at *
 obtain ⟨px,ps,pv,pr⟩:=p
 simp only [plD] at ha hsh ⊢
 generalize atE s k=e at *
 refine G0 ?_;try with_reducible exact tt
 refine CallS.pu (ha) (R0 ?_);try with_reducible exact tt
 by_cases h:e=0
 ·subst h
  refine AW.cond rfl (fun h=>?_) (fun h=>?_)
  ·simp at h
  have hh:=o_mq cs q dd ps (by have:=hsh rfl;omega) hp0 hn
  rw [Int.toNat_natCast] at hh
  simp only [if_true]
  generalize halfR cs ps q dd=r at hh ⊢
  obtain ⟨r1,r2,r3,r4⟩:=r
  simp only at hh ⊢
  refine G0B ?_;try with_reducible exact tt
  refine CallS.o1 0 (hh) (R0B ?_);try with_reducible exact tt
 ·simp only [if_neg h]
  refine AW.cond rfl (fun h=>?_) (fun h=>?_)
  ·refine G0 ?_;try with_reducible exact tt
  ·simp [*] at h


theorem o_pq (cs:List Bool) (a k:Int) (p:Nat) (dd:Bool) (hp:p≤cs.length) (hn:cs.length≤4000000) :
  Eqn Tryz.prog o_k5 [.d (.int .i64 a),.p 0 0,.d (.int .i64 k)] [tapeO cs p dd] (.tup [.d (.bool (stepYG cs a k p dd).1),.d (.int .i64 (stepYG cs a k p dd).2.1)]) [tapeO cs (stepYG cs a k p dd).2.2.1 (stepYG cs a k p dd).2.2.2]:=by
 refine Eqn.obj1 o_k7 (o_lr _ _) ⟨rfl,fun _=>rfl⟩ ?_
 refine cc (c':=?z67) ?_ ?_
 case refine_1=>cbv<;>exact rfl
 have hh:=o_pp cs a k p dd hp hn
 generalize stepYG cs a k p dd=R at *
 obtain ⟨R1,R2,R3,R4⟩:=R
 simp only at hh ⊢
 refine G0B ?_;try with_reducible exact tt
 refine CallS.o1 0 (hh) (R0B ?_);try with_reducible exact tt
end
end Go.Proofs.YtidfejfgmlakpaaGreat.Am
