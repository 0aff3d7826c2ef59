/- Parts of the proof: Pmf6, Pmf7, SortK, SortM, SortO, Pmf8, PmfG, Pmf9, PmfA, PmfB, PmfK, PmfC, PmfI, PmfJ, PmfO, PmfP, PmfQ, PmfU, PmfR, PmfS, PmfT, PmfV, PmfW, PtM, PtN, PmfD, PmfE, PtA, PtB, PtC, PsA, PsB, PtD, PtE, PsC, WtP, WtQ, WtS, WtT, WtU, WtV, WtM, WtR, WtA, WtB, PmfY, PmfZ, PmfCa, PmfCb, PmfCc, PmfF, PmfCd, WtC, TailN, FalN, TailA, TailB, TailC, TailD, TailE, TailF, TailG, Mor3, Mor4, Mor5, TailH, TailI, FalA, TailJ, PmfEb, TailK, TailM2, TailT, TailO, FalB, WtD, WtE, WtW, WtX, WtY, WtZ, WtJ, WtK, WtL, PtH, WuA, PtF, PtG, FalC, TmnA, WuB, WuC, WuT. -/
import Derived.Test.YtidfejfgmlakpaaGreatDoorPd
set_option linter.unusedVariables false
set_option linter.unusedSimpArgs false
set_option maxRecDepth 100000
namespace Go.Proofs.YtidfejfgmlakpaaGreatDoor.Am
section
open Go.RowKit
theorem o_vk {k a w x:Nat} (h:GoodS k a w) (hx:x≤15):RS (chP k a x) 1000:=by
 unfold chP
 by_cases hk:k=1
 ·subst hk
  rw [if_pos rfl]
  have ha:1≤a∧a≤4:=by
   rcases h.1 with ⟨-,h1,h2⟩ | ⟨h1,-⟩ | ⟨h1,-⟩
   ·exact ⟨h1,h2⟩
   ·omega
   ·omega
  have hb:bitsN (a+1)≤3:=o_ko (by omega)
  exact (o_ql a x ha.1 (by omega) (by omega) (Nat.le_trans (Nat.mul_le_mul hb hx) (by omega))).2.le (by omega)
 ·rw [if_neg hk]
  have he:=o_qf h hk hx
  exact RS.mk' (Nat.two_pow_pos _) (by show size 1≤1000;exact Nat.le_trans (by decide:size 1≤1) (by omega)) (Nat.le_trans (o_qh he) (by omega))
theorem o_vl {k a w:Nat} (h:GoodS k a w) (s:St) (hs:s.1≤topC w):Eqn Tryz.prog o_7s [.d (parD k a w),.d (.agg (stD s))] [] (.mp 0) [spO (stepQ (topC w) (chP k a) s)]:=by
 have h15:topC w≤15:=by have:=Nat.pow_le_pow_right (n:=2) (by omega) h.2.2;unfold topC;omega
 have hk4:¬(k:Int)=4:=by have:=h.1;omega
 have hk4':¬k=4:=by have:=h.1;omega
 have hl:=o_v8 k a w
 have hrs:=o_vk h (x:=s.1) (by omega)
 have hst:stepQ (topC w) (chP k a) s=onQ w s (chP k a s.1):=rfl
 rw [hst]
 have key:∃x0 x1 x2:D,Sub1 (.d (.agg [x0,x1,x2])) (.d (rD (if s.1=topC w then 0 else chP k a s.1)))∧Eqn Tryz.prog o_a1 [.d (parD k a w),.d (.int .i64 s.1)] [] (.tup [.d (.agg [x0,x1,x2]),.d (.int .i64 0)]) []:=by
  by_cases e:s.1=topC w
  ·refine ⟨_,_,_,by rw [if_pos e];exact o_uv,?_⟩
   have:=o_v7 h
   rw [show 2^w-1=s.1 from e.symm] at this
   exact this
  ·refine ⟨_,_,_,by rw [if_neg e];exact Sub1.refl _,o_v6 h (by unfold topC at *;omega)⟩
 obtain ⟨x0,x1,x2,hX,hch⟩:=key
 have hon:Eqn Tryz.prog o_a4 [.d (parD k a w),.d (.agg (stD s)),.d (.agg [x0,x1,x2])] [] (.mp 0) [spO (onQ w s (chP k a s.1))]:=by
  by_cases e:s.1=topC w
  ·rw [if_pos e] at hX
   have:=o_vj h s hs 0 (show RS (0:Rat) 1000 from ⟨by decide,by decide⟩) _ hX ⟨_,_,_,rfl⟩
   have e2:onQ w s 0=onQ w s (chP k a s.1):=by unfold onQ;rw [if_pos e,if_pos e]
   rw [e2] at this
   exact this
  ·rw [if_neg e] at hX
   exact o_vj h s hs _ hrs _ hX ⟨_,_,_,rfl⟩
 refine Eqn.gen [3] o_7u (by simp) (by simp) (by rfl) (by decide) (by simp) (by simp [spO]) ?_
 refine cc (c':=?z176) ?_ ?_
 case refine_1=>cbv<;>exact rfl
 try simp only [spO,stD,parD] at hl hch hon ⊢
 generalize spD rcD _=L at *
 refine A10 (fs hk4 hk4') ?_;try with_reducible exact tt
 refine CallS.pu (hl) (R0 ?_);try with_reducible exact tt
 refine CallS.pu (hch) (R0 ?_);try with_reducible exact tt
 refine A00 ?_;try with_reducible exact tt
 refine CallS.nX (hon) (R0 ?_);try with_reducible exact tt
theorem o_vm {k a w:Nat} (h:GoodS k a w) (s:St) (hs:s.1≤topC w):Eqn Tryz.prog o_8a [.d (.agg (stD s)),.p 0 0] [⟨27,[.d (.int .i64 k),.d (.int .i64 a),.d (.int .i64 w)]⟩] (.mp 1) [⟨27,[.d (.int .i64 k),.d (.int .i64 a),.d (.int .i64 w)]⟩,spO (stepQ (topC w) (chP k a) s)]:=by
 refine Eqn.gen [0,2] o_8c (by simp) (by simp) (by rfl) (by decide) (by simp) (by simp [spO]) ?_
 have hst:=o_vl h s hs
 refine cc (c':=?z177) ?_ ?_
 case refine_1=>cbv<;>exact rfl
 try simp only [spO,stD,parD] at hst ⊢
 generalize spD rcD _=L at *
 refine A00 ?_;try with_reducible exact tt
 refine CallS.nX (hst) (R0 ?_);try with_reducible exact tt
end
section
open Go.RowKit
def atomC (p:St×Rat):List D:=stD p.1++rcD p.2
theorem o_vn (p:St×Rat):(atomC p).length=6:=rfl
theorem o_vo (l:Sp):spD rcD l=l.flatMap atomC:=rfl
theorem o_vp (p q:St×Rat):Eqn Tryz.prog o_a8 [.d (.agg (atomC p)),.d (.agg (atomC q))] [] (.d (.int .i64 (ordI p q))) []:=o_ve p q _ _ _ _ _ _
def seenV (σ:List Nat):List V:=σ.map fun i:Nat=>V.d (.int .i64 (i:Int))
@[simp] theorem o_vq:∀σ:List Nat,seenOf (seenV σ)=some σ
 | []=>rfl
 | i::σ=>by
  have:=o_vq σ
  unfold seenV at *
  rw [List.map_cons,seenOf,if_pos (by omega),this]
  simp
@[simp] theorem o_vr (σ:List Nat) (i:Nat):seenV σ++[V.d (.int .i64 (i:Int))]=seenV (σ++[i]):=by simp [seenV]
@[simp] theorem o_vs (n:Nat) (σ:List Nat):V.lowl n (seenV σ)=true:=by
 induction σ with
 | nil=>rfl
 | cons i σ ih=>unfold seenV at *;simp [V.lowl,V.low,ih]
@[simp] theorem o_vt (θ:Nat→Nat) (σ:List Nat):V.rens θ (seenV σ)=seenV σ:=by
 induction σ with
 | nil=>rfl
 | cons i σ ih=>unfold seenV at *;simp [V.rens,V.ren,ih]
theorem o_vu:seenV []=[]:=rfl
def metQ (l:Sp) (σ:List Nat):Sp:=σ.flatMap fun i=>match l[i]? with
 | some p=>if p.2=0 then [] else [p]
 | none=>[]
theorem o_vv (l:Sp) (σ:List Nat) (i:Nat) (h:i<l.length):metQ l (σ++[i])=metQ l σ++if l[i].2=0 then [] else [l[i]]:=by
 simp [metQ,List.flatMap_append,List.getElem?_eq_getElem h]
theorem o_vw (l:Sp) (σ:List Nat) (hp:σ.Perm (List.range l.length)):(metQ l σ).Perm (nzQ l):=by
 have h1:(metQ l σ).Perm (metQ l (List.range l.length)):=List.Perm.flatMap_right _ hp
 refine h1.trans (List.Perm.of_eq ?_)
 have key:∀n,n≤l.length→metQ l (List.range n)=nzQ (l.take n):=by
  intro n
  induction n with
  | zero=>intro _;rfl
  | succ n ih =>
   intro hn
   rw [List.range_succ,o_vv l _ n (by omega),ih (by omega),List.take_add_one,List.getElem?_eq_getElem (by omega)]
   unfold nzQ
   rw [List.filter_append]
   congr 1
   simp only [Option.toList,List.filter_cons,List.filter_nil]
   by_cases h:l[n].2=0<;>simp [h]
 rw [key l.length (Nat.le_refl _),List.take_length]
theorem o_vx (l L:Sp) (hu:Uq l) (hp:L.Perm (nzQ l)):SortTo L (atQ l):=fun K' h1 h2=>o_ua hu (h1.trans hp) h2
end
section
open Go.RowKit
theorem o_vy {x y z:St} (h1:ltS x y=false) (h2:ltS y z=false):ltS x z=false:=by
 cases h:ltS x z with
 | false=>rfl
 | true =>
  rcases o_u2 x y with h3 | h3 | h3
  ·rw [h3] at h1;cases h1
  ·rw [←h3,h] at h2;cases h2
  ·rw [o_u1 h3 h] at h2;cases h2
structure AtV (I:Nat→Prop) (w:World):Type where
 enc:List Value
 «at» : St × Rat
 rep : D.reps I w (atomC «at») enc
 one:∀u∈enc,u.oneCell'=true
theorem AtV.len {I:Nat→Prop} {w:World} (x:AtV I w):x.enc.length=6:=by rw [D.reps_len x.rep];rfl
theorem D.reps_split {I:Nat→Prop} {w:World}:∀{l k:List D} {vs:List Value},D.reps I w (l++k) vs→∃us ws,vs=us++ws∧D.reps I w l us∧D.reps I w k ws
 | [],k,vs,h=>⟨[],vs,rfl,D.reps_nil.2 rfl,h⟩
 | x::l,k,vs,h=>by
  obtain ⟨v,r,rfl,h1,h2⟩:=D.reps_cons'.1 h
  obtain ⟨us,ws,rfl,h3,h4⟩:=D.reps_split h2
  exact ⟨v::us,ws,rfl,D.reps_cons.2 ⟨h1,h3⟩,h4⟩
theorem o_vz {I : Nat → Prop} {w : World} : ∀ (L : Sp) (us : List Value), D.reps I w (L.flatMap atomC) us → (∀ u ∈ us, u.oneCell' = true) → ∃ dl : List (AtV I w), dl.map AtV.«at» = L ∧ dl.flatMap AtV.enc = us
 | [],us,h,_=>by
  simp at h
  exact ⟨[],rfl,by simp [h]⟩
 | p::L,us,h,h1=>by
  rw [List.flatMap_cons] at h
  obtain ⟨a,b,rfl,h2,h3⟩:=D.reps_split h
  obtain ⟨dl,h4,h5⟩:=o_vz L b h3 fun u hu=>h1 u (by simp [hu])
  exact ⟨⟨a,p,h2,fun u hu=>h1 u (by simp [hu])⟩::dl,by rw [List.map_cons,h4],by rw [List.flatMap_cons,h5]⟩
theorem o_w0 {I : Nat → Prop} {w : World} : ∀ dl : List (AtV I w), D.reps I w ((dl.map AtV.«at»).flatMap atomC) (dl.flatMap AtV.enc)
 | []=>by simp
 | x::dl=>by
  rw [List.map_cons,List.flatMap_cons,List.flatMap_cons]
  exact D.reps_append x.rep (o_w0 dl)
theorem o_w1 {I:Nat→Prop} {w:World}:∀dl:List (AtV I w),(dl.flatMap AtV.enc).length=dl.length*6
 | []=>rfl
 | x::dl=>by rw [List.flatMap_cons,List.length_append,o_w1 dl,x.len,List.length_cons];omega
theorem o_w2 {α:Type} {k:Nat} (enc:α→List Value) (hk:∀x,(enc x).length=k):∀(l:List α) (t:Nat) (h:t<l.length*k),∃x,l[t/k]?=some x∧(l.flatMap enc)[t]?=(enc x)[t%k]?
 | [],t,h=>by simp at h
 | x::l,t,h=>by
  have k0:0<k:=by
   rcases Nat.eq_zero_or_pos k with h0 | h0
   ·subst h0;simp at h
   ·exact h0
  rw [List.flatMap_cons]
  by_cases ht:t<k
  ·refine ⟨x,by rw [Nat.div_eq_of_lt ht];rfl,?_⟩
   rw [List.getElem?_append_left (by rw [hk];exact ht),Nat.mod_eq_of_lt ht]
  ·have hd:t/k=(t-k)/k+1:=by
    rw [show t=(t-k)+k by omega,Nat.add_div_right _ k0];simp
   have hm:t%k=(t-k)%k:=by
    conv=>lhs;rw [show t=(t-k)+k by omega,Nat.add_mod_right]
   obtain ⟨y,h1,h2⟩:=o_w2 enc hk l (t-k) (by rw [List.length_cons,Nat.add_mul] at h;omega)
   refine ⟨y,by rw [hd];exact h1,?_⟩
   rw [List.getElem?_append_right (by rw [hk];omega),hk,h2,hm]
theorem o_w3 {α:Type} [Inhabited α] {k:Nat} (enc:α→List Value) (hk:∀x,(enc x).length=k) (hfl:∀l:List α,(l.flatMap enc).length=l.length*k) (dl:List α):Go.Sort.flatK enc k dl.toArray=(dl.flatMap enc).toArray:=by
 apply Array.ext
 ·rw [Go.Sort.size_flatK];simp [hfl]
 ·intro t h1 h2
  have ht:t<dl.length*k:=by rw [Go.Sort.size_flatK] at h1;simpa using h1
  obtain ⟨x,e1,e2⟩:=o_w2 enc hk dl t ht
  have h3:=Go.Sort.get_flatK enc k dl.toArray t (by simpa using ht)
  rw [getElem!_pos _ t h1] at h3
  rw [h3]
  have e3:dl.toArray[t/k]! = x:=by simp [Array.getElem!_eq_getD,Array.getD_eq_getD_getElem?,e1]
  rw [e3]
  have k0:0<k:=by
   rcases Nat.eq_zero_or_pos k with h0 | h0
   ·subst h0;simp at ht
   ·exact h0
  have h4:t%k<(enc x).length:=by rw [hk];exact Nat.mod_lt _ k0
  rw [List.getElem?_eq_getElem h4] at e2
  have e4:(dl.flatMap enc)[t]'(by rw [hfl];exact ht)=(enc x)[t%k]:=by
   have h5:t<(dl.flatMap enc).length:=by rw [hfl];exact ht
   rw [List.getElem?_eq_getElem h5] at e2
   exact Option.some.inj e2
  rw [getElem!_pos (enc x) _ h4]
  simp only [List.getElem_toArray]
  exact e4.symm
end
section
open Go.RowKit
instance : Inhabited (St × Rat) := ⟨((0, 0, false), 0)⟩
section
variable {α:Type} [Inhabited α] (enc:α→List Value) (k:Nat)
theorem o_w4 (w:World) (b off n:Nat) (d:Array α) (os:Array Obj):(sortWorldK enc k w b off n d os).heap=w.heap.modify b (Go.Sort.onCells (Go.Sort.putCells id off (Go.Sort.flatK enc k d)))++os:=rfl
theorem o_w5 (w:World) (b off n:Nat) (d:Array α) (os:Array Obj) {c:Nat} (hc:c<w.heap.size) (h:c≠b):(sortWorldK enc k w b off n d os).heap[c]?=w.heap[c]?:=by
 rw [o_w4,Array.getElem?_append,if_pos (by simpa using hc),Array.getElem?_modify,if_neg (fun e=>h e.symm)]
theorem o_w6 (w:World) (b off n:Nat) (d:Array α) (os:Array Obj) {c:Array Value} {T:TypeId} {fr:Nat×Nat} (h:w.heap[b]?=some (.cells c T fr)) :
  (sortWorldK enc k w b off n d os).heap[b]?=some (.cells (Go.Sort.putCells id off (Go.Sort.flatK enc k d) c) T fr):=by
 have hc:b<w.heap.size:=(Array.getElem?_eq_some_iff.1 h).1
 rw [o_w4,Array.getElem?_append,if_pos (by simpa using hc),Array.getElem?_modify,if_pos rfl,h]
 rfl
theorem o_w7 (w:World) (b off n:Nat) (d:Array α) (os:Array Obj):(sortWorldK enc k w b off n d os).heap.size=w.heap.size+os.size:=by
 rw [o_w4,Array.size_append,Array.size_modify]
end
theorem o_w8 (us vs more:List Value) (h:us.length=vs.length):Go.Sort.putCells id 0 us.toArray (vs++more).toArray=(us++more).toArray:=by
 apply Array.ext_getElem?
 intro j
 rw [Go.Sort.putCells,Array.getElem?_mapIdx]
 simp only [List.getElem?_toArray,List.size_toArray,Nat.zero_le,true_and,Nat.zero_add,Nat.sub_zero]
 by_cases hj:j<us.length
 ·rw [List.getElem?_append_left hj,List.getElem?_append_left (by omega),List.getElem?_eq_getElem hj,List.getElem?_eq_getElem (by omega:j<vs.length)]
  simp [hj]
 ·rw [List.getElem?_append_right (by omega),List.getElem?_append_right (by omega),h]
  cases more[j-vs.length]? with
  | none=>rfl
  | some y=>simp [show ¬j<vs.length by omega]
theorem o_w9 {α:Type} [Inhabited α] (enc:α→List Value) (k:Nat) (w:World) (b n:Nat) (d:Array α) (os:Array Obj) {c:Nat} (hc:c<w.heap.size):(sortWorldK enc k w b 0 n d os).shape? c=w.shape? c:=by
 unfold World.shape?
 by_cases h:c=b
 ·subst h
  rw [o_w4,Array.getElem?_append,if_pos (by simpa using hc),Array.getElem?_modify,if_pos rfl]
  cases h1:w.heap[c]? with
  | none=>rfl
  | some o=>cases o<;>simp [Go.Sort.onCells,Go.Sort.putCells]
 ·rw [o_w5 enc k w b 0 n d os hc h]

theorem o_wa {W w:World} (l1:w.os=W.os) (l2:w.tape=W.tape) (l3:w.output=W.output) (l4:W.drawn≤w.drawn) (l5:W.heap.size≤w.heap.size) (l6:∀c,c<W.heap.size→w.heap[c]?=W.heap[c]?) :
  w=Go.Sort.grow (W.drewN (w.drawn-W.drawn)) (w.heap.extract W.heap.size w.heap.size):=by
 obtain ⟨w1,w2,w3,w4,w5⟩:=w
 obtain ⟨u1,u2,u3,u4,u5⟩:=W
 simp only at l1 l2 l3 l4 l5 l6
 subst l1 l2 l3
 show World.mk _ _ _ _ _=World.mk _ _ _ _ _
 congr 1
 ·apply Array.ext_getElem?
  intro j
  show w1[j]?=(u1++w1.extract u1.size w1.size)[j]?
  rw [Array.getElem?_append]
  split
  ·exact l6 j (by assumption)
  ·rename_i hj
   rw [Array.getElem?_extract]
   split
   ·congr 1;omega
   ·exact Array.getElem?_eq_none (by omega)
 ·show w3=u3+(w3-u3)
  omega

def cfA {I:Nat→Prop} {w:World} (x y:AtV I w):Int:=ordI x.at y.at
theorem ltA {I:Nat→Prop} {w:World} (x y:AtV I w):ltOf cfA x y=ltS x.at.1 y.at.1:=by
 unfold ltOf cfA
 cases h:ltS x.at.1 y.at.1 with
 | true=>exact decide_eq_true ((o_vd _ _).2 h)
 | false=>exact decide_eq_false fun h1=>by rw [(o_vd _ _).1 h1] at h;cases h
theorem o_wb (s:St):ltS s s=false:=by
 cases h:ltS s s with
 | false=>rfl
 | true=>simp [ltS] at h
theorem swoA {I:Nat→Prop} {w:World}:Go.Sort.SWO (ltOf (cfA (I:=I) (w:=w))) where
 irrefl x:=by rw [ltA];exact o_wb _
 trans x y z h1 h2:=by rw [ltA] at *;exact o_u1 h1 h2
 ntrans x y z h1 h2:=by rw [ltA] at *;exact o_vy h1 h2

theorem cmpA {m:Mem} (hb:m.base) (b:Nat) (hbI:¬m.I b) (hbs:b<m.w.heap.size) (N:Nat) [Inhabited (AtV m.I m.w)] :
  CmpLays Tryz.prog o_a8 #[] (AtV.enc (I:=m.I) (w:=m.w)) 6 cfA b 0 N m.w:=by
 intro n os dk hs x y
 obtain ⟨W,hW⟩:∃W,W=sortWorldK (AtV.enc (I:=m.I) (w:=m.w)) 6 m.w b 0 n dk os:=⟨_,rfl⟩
 rw [←hW]
 have hI:∀c,m.I c→W.heap[c]?=m.w.heap[c]?:=fun c hc=>by rw [hW];exact o_w5 _ _ _ _ _ _ _ _ (hb.imm c hc) fun e=>hbI (e▸hc)
 have hbase:Mem.base ⟨fun _=>none,m.I,W⟩:=⟨fun c hc=>by
   show c<W.heap.size
   rw [hW,o_w7]
   have:=hb.imm c hc
   omega,fun _ _ h=>(by cases h),hb.tabs.mono (fun _ h=>h) hI⟩
 have hx:=D.reps_mono (fun _ h=>h) hI _ _ x.rep
 have hy:=D.reps_mono (fun _ h=>h) hI _ _ y.rep
 have hr:=(o_vp x.at y.at).run ⟨fun _=>none,m.I,W⟩ [.agg x.enc.toArray,.agg y.enc.toArray] hbase
  ⟨_,_,rfl,⟨x.enc,rfl,x.one,hx⟩,_,_,rfl,⟨y.enc,rfl,y.one,hy⟩,rfl⟩ (by simp) (by simp) (by simp)
 have he:=o_6j o_aa #[.agg x.enc.toArray,.agg y.enc.toArray] W
 rcases hr with ⟨v,h1,h2⟩ | ⟨h1,h2⟩
 ·rw [show ([.agg x.enc.toArray,.agg y.enc.toArray]:List Value).toArray = #[.agg x.enc.toArray,.agg y.enc.toArray] from rfl,he] at h1
  cases h1
 ·refine h2.mono ?_
  rintro e w' ⟨v,m',rfl,rfl,h⟩
  refine ⟨by rw [show v = .int .i64 (ordI x.at y.at) from h.rep];rfl,m'.w.drawn-W.drawn,m'.w.heap.extract W.heap.size m'.w.heap.size,?_⟩
  have l1:m'.w.os=W.os:=h.le.os
  have l2:m'.w.tape=W.tape:=h.le.tape
  have l3:m'.w.output=W.output:=h.le.output
  have l4:W.drawn≤m'.w.drawn:=h.le.drawn
  have l5:W.heap.size≤m'.w.heap.size:=h.le.size
  have l6:∀c,c<W.heap.size→m'.w.heap[c]?=W.heap[c]?:=fun c hc=>h.le.block c hc fun n hn=>absurd hn (by simp)
  exact o_wa l1 l2 l3 l4 l5 l6
end
section
open Go.RowKit
theorem o_wc {I:Nat→Prop} {w:World} [Inhabited (AtV I w)] (l:List (AtV I w)) (hn:(l.map fun x=>x.at.1).Nodup) (hs:Go.Sort.SortedIn (ltOf cfA) 0 l.length l.toArray) :
  (l.map AtV.«at»).Pairwise fun a b => ltS a.1 b.1 = true := by
 rw [List.pairwise_map,List.pairwise_iff_getElem]
 intro i j hi hj hij
 have h:=hs i j (Nat.zero_le _) hij hj
 rw [ltA,getElem!_pos l.toArray j (by simpa using hj),getElem!_pos l.toArray i (by simpa using hi),List.getElem_toArray,List.getElem_toArray] at h
 rcases o_u2 l[i].at.1 l[j].at.1 with h1 | h1 | h1
 ·exact h1
 ·exfalso
  have:=(List.getElem_inj (h₀:=by simpa using hi) (h₁:=by simpa using hj) hn).1 (by simpa using h1)
  omega
 ·rw [h1] at h;cases h

set_option maxHeartbeats 2000000 in
theorem o_wd (L:Sp) (hu:Uq L) (h0:1≤L.length) (hl:L.length<4611686018427387904) (K:Sp) (hK:SortTo L K) :
  Eqn Tryz.prog o_a7 [.own 0 6 L.length,.fn (.func o_a8) []] [⟨48,rowA atomC L⟩] (.tup []) [⟨48,rowA atomC K⟩]:=by
 refine ⟨by simp,by simp,by rfl,by simp [rowA,o_62],?_⟩
 intro m vs hb hv ho hinj htop
 obtain ⟨v1,r1,rfl,hv1,v2,r2,rfl,hv2,rfl⟩:=hv
 obtain ⟨b,t,k,cap,hρ,hsh,rfl,rfl,hcap,hmax⟩:=hv1
 obtain ⟨cs,rfl,rfl⟩:=hv2
 obtain ⟨b',us,more,hρ',hheap,hone,hrep,hnI⟩:=ho 0 _ rfl
 obtain rfl:b=b':=by rw [hρ] at hρ';exact Option.some.inj hρ'
 have hrep':D.reps m.I m.w (L.flatMap atomC) us:=V.reps_map_d.1 hrep
 rw [o_0 (show (48:Nat)<TG by decide)] at hheap
 have hbs:=hb.dom 0 b hρ
 obtain ⟨dl,hd1,hd2⟩:=o_vz L us hrep' hone
 have hlen:dl.length=L.length:=by rw [←hd1];simp
 haveI:Inhabited (AtV m.I m.w):=⟨dl.head fun e=>by rw [e] at hlen;simp at hlen;omega⟩
 have hfl:=o_w3 AtV.enc AtV.len o_w1 dl
 have hH:Go.Sort.HoldsK AtV.enc 6 m.w b 0 dl.toArray:=by
  unfold Go.Sort.HoldsK
  rw [hfl,hd2]
  intro j hj
  have hj':j<us.length:=by simpa using hj
  refine ⟨?_,?_⟩
  ·unfold World.cell?
   rw [hheap]
   simp [List.getElem?_append_left hj',hj']
  ·unfold World.frozen?
   simp [hheap]
 have main:=AnyQ.slices_SortFunc (ρ:=renA) sortL 6 aggAtom sizeAtom AtV.enc AtV.len (fun x v hv=>x.one v hv) cfA swoA o_a8 #[] b 0 cap dl.toArray m.w (fun vs w=>o_6j o_aa vs w) (cmpA hb b hnI hbs _) hH hbs (by simp;omega)
 refine .inr ⟨sortL.f6.enters rfl _ _,?_⟩
 have e0:(dl.toArray.size:Nat)=L.length:=by simp [hlen]
 rw [e0] at main
 refine main.mono ?_
 rintro e w' ⟨rfl,d',n,os,hp,hs,rfl⟩
 obtain ⟨l',rfl⟩:∃l':List (AtV m.I m.w),d'=l'.toArray:=⟨d'.toList,by simp⟩
 have hl':l'.length=dl.length:=by have:=hp.1;simpa using this
 have hp':l'.Perm dl:=by
  have:=hp.2.2
  rw [←e0] at this
  have h2:(List.take dl.length l').Perm dl:=by simpa using this
  rwa [←hl',List.take_length] at h2
 have hfl':=o_w3 AtV.enc AtV.len o_w1 l'
 have hus:(l'.flatMap AtV.enc).length=us.length:=by rw [←hd2,o_w1,o_w1,hl']
 have hnod:(l'.map fun x=>x.at.1).Nodup:=by
  have:(dl.map fun x=>x.at.1)=L.map (·.1):=by rw [←hd1,List.map_map];rfl
  rw [(hp'.map _).nodup_iff,this];exact hu
 have hKe : l'.map AtV.«at» = K := hK _ (by rw [← hd1]; exact hp'.map _) (o_wc l' hnod (by rw [hl', hlen]; exact hs))
 have hblk:=o_w6 AtV.enc 6 m.w b 0 n l'.toArray os hheap
 rw [hfl',o_w8 _ _ _ hus] at hblk
 obtain ⟨W,hW⟩:∃W,W=sortWorldK AtV.enc 6 m.w b 0 n l'.toArray os:=⟨_,rfl⟩
 have hne:∀c,c<m.w.heap.size→c≠b→W.heap[c]?=m.w.heap[c]?:=fun c hc h=>by rw [hW];exact o_w5 _ _ _ _ _ _ _ _ hc h
 have hsz:m.w.heap.size≤W.heap.size:=by rw [hW,o_w7];omega
 have hshp:∀c,c<m.w.heap.size→W.shape? c=m.w.shape? c:=fun c hc=>by rw [hW];exact o_w9 _ _ _ _ _ _ _ hc
 have hI:∀c,m.I c→W.heap[c]?=m.w.heap[c]?:=fun c hc=>hne c (hb.imm c hc) fun e=>hnI (e▸hc)
 have l1:W.os=m.w.os:=by rw [hW];rfl
 have l2:W.tape=m.w.tape:=by rw [hW];rfl
 have l3:W.output=m.w.output:=by rw [hW];rfl
 have l4:m.w.drawn≤W.drawn:=by rw [hW];exact Nat.le_add_right _ _
 rw [←hW] at hblk ⊢
 have hle:m.le ⟨m.ρ,m.I,W⟩ (· < 1):=⟨fun _ _ h=>h,fun _ h=>h,l1,l2,l3,l4,hsz,fun c hc h=>hne c hc fun e=>h 0 (by decide) (by rw [e];exact hρ),hshp,hI,fun _ h=>.inl h,fun _ _ h=>.inl h⟩
 refine ⟨.tuple #[],⟨m.ρ,m.I,W⟩,rfl,rfl,⟨fun c hc=>Nat.lt_of_lt_of_le (hb.imm c hc) hsz,fun i c hc=>Nat.lt_of_lt_of_le (hb.dom i c hc) hsz,hb.tabs.mono (fun _ h=>h) hI⟩,hle,⟨[],rfl,rfl⟩,?_,?_,?_,?_⟩
 ·intro i ob _ hob
  match i,hob with
  | 0,hob =>
   simp only [List.getElem?_cons_zero,Option.some.injEq] at hob
   subst hob
   refine ⟨b,l'.flatMap AtV.enc,more,hρ,?_,?_,?_,hnI⟩
   ·rw [o_0 (show (48:Nat)<TG by decide)];exact hblk
   ·intro u hu
    rw [List.mem_flatMap] at hu
    obtain ⟨x,_,hx⟩:=hu
    exact x.one u hx
   ·refine V.reps_map_d.2 (D.reps_mono (fun _ h=>h) hI _ _ ?_)
    rw [←hKe]
    exact o_w0 l'
  | i+1,hob=>simp at hob
 ·intro i j c _ _ hi hj _ _
  simp at hi hj
  omega
 ·intro i hi;exact htop i (by simpa using hi)
 ·intro i c hi hc
  rw [show (⟨m.ρ,m.I,W⟩:Mem).ρ i=m.ρ i from rfl,htop i (by simpa using hi)] at hc
  cases hc
end
section
open Go.RowKit
@[simp] theorem o_we (n s:Nat) (ds l:List D):V.frzs n s ds (l.map V.d)=l.map V.d:=by
 rw [o_59,List.map_map]
 apply List.map_congr_left
 intro x _
 simp
def slM (l:Sp) (σ:List Nat):List V:=setS (List.replicate 26 .junk) [(0,.mp 0),(3,if (metQ l σ).length=0 then .d .nilsl else .own 2 6 (metQ l σ).length),(7,.p 1 0)]
def hpM (l:Sp) (σ:List Nat):List (Option Ob):=[some (spO l),some ⟨1000000,.mp 0::.d (.int .i64 (l.length:Nat))::seenV σ⟩]++if (metQ l σ).length=0 then [] else [some ⟨48,rowA atomC (metQ l σ)⟩]
theorem o_wf (q:Rat):(cmpQ q 0≠0)↔q≠0:=by
 unfold cmpQ
 by_cases h1:q<0
 ·rw [if_pos h1];constructor
  ·intro _ h;subst h;exact absurd h1 (by decide)
  ·intro _ h;cases h
 ·rw [if_neg h1]
  by_cases h2:0<q
  ·rw [if_pos h2];constructor
   ·intro _ h;subst h;exact absurd h2 (by decide)
   ·intro _ h;cases h
  ·rw [if_neg h2];constructor
   ·intro h;exact absurd rfl h
   ·intro h;exact absurd (Rat.le_antisymm (Rat.not_lt.1 h2) (Rat.not_lt.1 h1)) h
set_option maxHeartbeats 4000000 in
theorem o_wg (l:Sp) (hu:Uq l) (h0:nzQ l≠[]) (hl:l.length≤1000000) (hr:∀p∈l,RS p.2 100000):Eqn Tryz.prog o_7v [.mp 0] [spO l] (.d (.sl (atQ l).length (spD rcD (atQ l)))) [spO l]:=by
 refine Eqn.gen [0] o_7x (by simp) (by simp) (by rfl) (by decide) (by simp) (by simp [spO]) ?_
 have hn:=o_tn rcD (fun _=>rfl) l
 refine cc (c':=?z178) ?_ ?_
 case refine_1=>cbv<;>exact rfl
 try simp only [spO]
 refine A10 hn ?_;try with_reducible exact tt
 refine AW.loopG (α:=List Nat) (fun σ=>slM l σ) (fun σ=>hpM l σ) (fun σ=>σ.Nodup∧∀i∈σ,i<l.length) (fun σ=>l.length-σ.length) [] ?_ ⟨by simp,by simp⟩ ?_ ?_ ?_
 ·intro σ _;unfold hpM;split<;>simp [spO]
 ·simp [slM,hpM,metQ]
 ·simp [hpM,metQ,spO,hn,o_vu]
 rintro σ ⟨hnd,hlt⟩
 have hbnd:σ.length≤l.length:=by
  have h2:σ.length≤(List.range l.length).length:=hnd.length_le_of_subset fun i hi=>List.mem_range.2 (hlt i hi)
  simpa using h2
 have ent:∀i (hi:i<l.length),∃(s1 s2:Nat) (s3:Bool) (q:Rat) (N1 N2 N3:D),l[i]=((s1,s2,s3),q)∧rcD q=[N1,N2,N3]∧RS q 100000∧((spD rcD l).drop (i*6)).take 3=[.int .i64 s1,.int .i64 s2,.bool s3]∧((spD rcD l).drop (i*6+3)).take 3=[N1,N2,N3]:=by
  intro i hi
  obtain ⟨⟨⟨s1,s2,s3⟩,q⟩,hp⟩:∃p,l[i]=p:=⟨_,rfl⟩
  have h6:=o_ox (n:=6) (f:=atomC) o_vn l i hi
  rw [hp,←o_vo] at h6
  have h1:((spD rcD l).drop (i*6)).take 3=(((spD rcD l).drop (i*6)).take 6).take 3:=by rw [List.take_take];rfl
  have h2:((spD rcD l).drop (i*6+3)).take 3=(((spD rcD l).drop (i*6)).take 6).drop 3:=by rw [←List.drop_drop];simp [List.drop_take]
  refine ⟨s1,s2,s3,q,_,_,_,hp,rfl,hr ((s1,s2,s3),q) (by have:=List.getElem_mem hi;rw [hp] at this;exact this),?_,?_⟩
  ·rw [h1,h6];rfl
  ·rw [h2,h6];rfl
 have allp:(∀i,i<l.length→i∈σ)→σ.Perm (List.range l.length):=fun hall=>(List.perm_ext_iff_of_nodup hnd List.nodup_range).2 fun i=>⟨fun h=>List.mem_range.2 (hlt i h),fun h=>hall i (List.mem_range.1 h)⟩
 have ho:=rof0
 have h12:(nzQ l).length≤1000000:=Nat.le_trans (List.length_filter_le _ _) hl
 by_cases m0:(metQ l σ).length=0
 ·have mz:metQ l σ=[]:=List.eq_nil_of_length_eq_zero m0
  rw [slM,hpM,if_pos m0,if_pos m0]
  simp [spO]
  refine A10 hn ?_;try with_reducible exact tt
  refine ⟨fun i hi hin=>?_,fun hall=>?_⟩
  ·obtain ⟨s1,s2,s3,q,N1,N2,N3,hp,hN,hq,hK,hV⟩:=ent i hi
   have hc:=o_o7 q 0 hq (show RS (0:Rat) 100000 from ⟨by decide,by decide⟩)
   have hms:=o_vv l σ i hi
   rw [hp] at hms
   have hR:(σ++[i]).Nodup∧∀j∈σ++[i],j<l.length:=by
    refine ⟨by rw [List.nodup_append];exact ⟨hnd,by simp,fun a ha b hb e=>by simp at hb;subst hb;exact hin (e▸ha)⟩,fun j hj=>?_⟩
    rcases List.mem_append.1 hj with hj | hj
    ·exact hlt j hj
    ·simp at hj;subst hj;exact hi
   have hl1:(σ++[i]).length≤l.length:=by
    have h2:(σ++[i]).length≤(List.range l.length).length:=hR.1.length_le_of_subset fun j hj=>List.mem_range.2 (hR.2 j hj)
    simpa using h2
   rw [List.length_append,List.length_singleton] at hl1
   have hz0:rcD 0=[natW 0,.bool false,natW 0]:=rfl
   rw [o_uu,o_uu,hN] at hc
   rw [o_uu] at ho
   rw [hz0] at hc ho
   refine A10 (fs hi (fs hn (fs hK hV))) ?_;try with_reducible exact tt
   refine CallS.pu (ho) (R1 (fs hi (fs hn (fs hK hV))) ?_);try with_reducible exact tt
   refine CallS.pu (hc) (R0 ?_);try with_reducible exact tt
   by_cases hq0:q=0
   ·have hc0:cmpQ q 0=0:=Classical.byContradiction fun h=>(o_wf q).1 h hq0
    refine A10 hc0 ?_;try with_reducible exact tt
    have e':metQ l (σ++[i])=[]:=by rw [hms,mz];simp [hq0]
    refine ⟨σ++[i],1,1,⟨by omega,by omega,by omega,by omega⟩,hR,by simp;omega,?_,?_⟩
    ·simp [slM,hpM,e',spO,swT,swH,sw,Ob.sw,V.ren,V.rens]
    ·simp [slM,hpM,e',spO,swT,swH,sw,Ob.sw,V.ren,V.rens]
   ·have hc0:¬cmpQ q 0=0:=(o_wf q).2 hq0
    refine A10 hc0 ?_;try with_reducible exact tt
    have e':metQ l (σ++[i])=[((s1,s2,s3),q)]:=by rw [hms,mz];simp [hq0]
    refine ⟨σ++[i],2,5,⟨by omega,by omega,by omega,by omega⟩,hR,by simp;omega,?_,?_⟩
    ·simp [slM,hpM,e',spO,swT,swH,sw,Ob.sw,V.ren,V.rens]
    ·simp [slM,hpM,e',spO,swT,swH,sw,Ob.sw,V.ren,V.rens,rowA,atomC,stD,hN]
  ·exfalso
   have hp:=o_vw l σ (allp hall)
   rw [mz] at hp
   exact h0 (List.Perm.eq_nil hp.symm)
 ·obtain ⟨M,hM⟩:∃M,M=metQ l σ:=⟨_,rfl⟩
  have hMl:=o_vf o_vn M
  rw [slM,hpM,if_neg m0,if_neg m0]
  rw [←hM] at m0 ⊢
  have hmp:0<M.length:=by omega
  have hmM:M.length≤l.length:=by
   rw [hM]
   have key:∀τ:List Nat,(metQ l τ).length≤τ.length:=by
    intro τ
    induction τ with
    | nil=>simp [metQ]
    | cons j τ ih =>
     have:metQ l (j::τ)=(match l[j]? with | some p=>if p.2=0 then [] else [p] | none=>[])++metQ l τ:=by unfold metQ;exact List.flatMap_cons
     rw [this,List.length_append]
     have h1:(match l[j]? with | some p=>if p.2=0 then [] else [p] | none=>[]:Sp).length≤1:=by
      split
      ·split<;>simp
      ·simp
     simp only [List.length_cons];omega
   exact Nat.le_trans (key σ) hbnd
  simp [spO]
  refine A10 hn ?_;try with_reducible exact tt
  refine ⟨fun i hi hin=>?_,fun hall=>?_⟩
  ·obtain ⟨s1,s2,s3,q,N1,N2,N3,hp,hN,hq,hK,hV⟩:=ent i hi
   have hc:=o_o7 q 0 hq (show RS (0:Rat) 100000 from ⟨by decide,by decide⟩)
   have hms:=o_vv l σ i hi
   rw [hp,←hM] at hms
   have hR:(σ++[i]).Nodup∧∀j∈σ++[i],j<l.length:=by
    refine ⟨by rw [List.nodup_append];exact ⟨hnd,by simp,fun a ha b hb e=>by simp at hb;subst hb;exact hin (e▸ha)⟩,fun j hj=>?_⟩
    rcases List.mem_append.1 hj with hj | hj
    ·exact hlt j hj
    ·simp at hj;subst hj;exact hi
   have hl1:(σ++[i]).length≤l.length:=by
    have h2:(σ++[i]).length≤(List.range l.length).length:=hR.1.length_le_of_subset fun j hj=>List.mem_range.2 (hR.2 j hj)
    simpa using h2
   rw [List.length_append,List.length_singleton] at hl1
   have hz0:rcD 0=[natW 0,.bool false,natW 0]:=rfl
   rw [o_uu,o_uu,hN] at hc
   rw [o_uu] at ho
   rw [hz0] at hc ho
   refine A10 (fs hi (fs hn (fs hK hV))) ?_;try with_reducible exact tt
   refine CallS.pu (ho) (R1 (fs hi (fs hn (fs hK hV))) ?_);try with_reducible exact tt
   refine CallS.pu (hc) (R0 ?_);try with_reducible exact tt
   by_cases hq0:q=0
   ·have hc0:cmpQ q 0=0:=Classical.byContradiction fun h=>(o_wf q).1 h hq0
    refine A10 hc0 ?_;try with_reducible exact tt
    have e':metQ l (σ++[i])=M:=by rw [hms];simp [hq0]
    refine ⟨σ++[i],2,2,⟨by omega,by omega,by omega,by omega⟩,hR,by simp;omega,?_,?_⟩
    ·simp [slM,hpM,e',m0,spO,swT,swH,sw,Ob.sw,V.ren,V.rens]
    ·simp [slM,hpM,e',m0,spO,swT,swH,sw,Ob.sw,V.ren,V.rens]
   ·have hc0:¬cmpQ q 0=0:=(o_wf q).2 hq0
    refine A10 (fs hc0 hMl) ?_;try with_reducible exact tt
    have e':metQ l (σ++[i])=M++[((s1,s2,s3),q)]:=by rw [hms];simp [hq0]
    have e2:rowA atomC (M++[((s1,s2,s3),q)])=rowA atomC M++[.d (.int .i64 s1),.d (.int .i64 s2),.d (.bool s3),.d N1,.d N2,.d N3]:=by rw [o_vi];simp [rowA,atomC,stD,hN]
    refine ⟨σ++[i],2,6,⟨by omega,by omega,by omega,by omega⟩,hR,by simp;omega,?_,?_⟩
    ·simp [slM,hpM,e',spO,swT,swH,sw,Ob.sw,V.ren,V.rens]
    ·simp [slM,hpM,e',spO,swT,swH,sw,Ob.sw,V.ren,V.rens,←e2]
  ·have hp:=o_vw l σ (allp hall)
   rw [←hM] at hp
   have hMl2:M.length=(atQ l).length:=by rw [hp.length_eq,(o_u5 l).length_eq]
   have hso:=o_wd M (by unfold Uq;exact (hp.map _).nodup_iff.2 (o_u7 hu)) hmp (by rw [hp.length_eq];omega) (atQ l) (o_vx l M hu hp)
   have hal:(spD rcD (atQ l)).length=(atQ l).length*6:=o_tn rcD (fun _=>rfl) _
   have htk:(spD rcD (atQ l)).take ((atQ l).length*6)=spD rcD (atQ l):=List.take_of_length_le (by omega)
   rw [hMl2] at hso ⊢
   refine A00 ?_;try with_reducible exact tt
   refine CallS.g [2] hso ?_
   simp
   refine AW.freeze 2 6 ⟨48,rowA atomC (atQ l)⟩ (spD rcD (atQ l)) (by simp) rfl ?_
   simp [frzH,htk]
   refine A10 htk ?_;try with_reducible exact tt
theorem o_wh (l:Sp) (hu:Uq l) (h0:nzQ l≠[]) (h12:(nzQ l).length≤40) (hl:l.length≤1000000) (hr:∀p∈l,RS p.2 100000):Eqn Tryz.prog o_7v [.mp 0] [spO l] (.d (.sl (atQ l).length (spD rcD (atQ l)))) [spO l]:=o_wg l hu h0 hl hr
end
section
open Go.RowKit
def Gr (D B:Nat) (q:Rat):Prop:=∃z:Nat,q*(D:Rat)=(z:Rat)∧z≤B*D
theorem o_wi {D:Nat} (h:0<D):(D:Rat)≠0:=by
 intro e
 have:D=0:=by exact_mod_cast e
 omega
theorem Gr.rs {D B N:Nat} {q:Rat} (hD:0<D) (hB:1≤B) (h:Gr D B q) (hN:size (B*D)≤N):RS q N:=by
 obtain ⟨z,h1,h2⟩:=h
 have hd:=o_wi hD
 have e:q=mkRat (z:Int) D:=by
  rw [Rat.mkRat_eq_div]
  have:((z:Int):Rat)=(z:Rat):=rfl
  rw [this,←h1]
  rw [Rat.mul_div_cancel hd]
 rw [e]
 refine RS.mk' hD ?_ ?_
 ·exact Nat.le_trans (o_k5 (by simpa using h2)) hN
 ·exact Nat.le_trans (o_k5 (by exact Nat.le_mul_of_pos_left D hB)) hN
theorem Gr.zero (D B:Nat):Gr D B 0:=⟨0,by grind,Nat.zero_le _⟩
theorem Gr.add {D B C:Nat} {x y:Rat} (hx:Gr D B x) (hy:Gr D C y):Gr D (B+C) (x+y):=by
 obtain ⟨z,h1,h2⟩:=hx
 obtain ⟨w,h3,h4⟩:=hy
 refine ⟨z+w,?_,by rw [Nat.add_mul];omega⟩
 have:((z+w:Nat):Rat)=(z:Rat)+(w:Rat):=by simp
 rw [this,←h1,←h3];grind
theorem Gr.mul {D E B C:Nat} {x y:Rat} (hx:Gr D B x) (hy:Gr E C y):Gr (D*E) (B*C) (x*y):=by
 obtain ⟨z,h1,h2⟩:=hx
 obtain ⟨w,h3,h4⟩:=hy
 refine ⟨z*w,?_,?_⟩
 ·have e1:((z*w:Nat):Rat)=(z:Rat)*(w:Rat):=by simp
  have e2:((D*E:Nat):Rat)=(D:Rat)*(E:Rat):=by simp
  rw [e1,e2,←h1,←h3];grind
 ·have:=Nat.mul_le_mul h2 h4
  refine Nat.le_trans this (Nat.le_of_eq ?_)
  rw [Nat.mul_mul_mul_comm]
theorem Gr.le {D B C:Nat} {x:Rat} (h:Gr D B x) (hbc:B≤C):Gr D C x:=by
 obtain ⟨z,h1,h2⟩:=h
 exact ⟨z,h1,Nat.le_trans h2 (Nat.mul_le_mul_right _ hbc)⟩
theorem Gr.one (D:Nat):Gr D 1 1:=⟨D,by grind,by omega⟩
theorem Gr.sub1 {D:Nat} {x:Rat} (h:Gr D 1 x):Gr D 1 (1-x):=by
 obtain ⟨z,h1,h2⟩:=h
 refine ⟨D-z,?_,by omega⟩
 have e1:((D-z:Nat):Rat)=(D:Rat)-(z:Rat):=by
  have:(D:Rat)=((D-z+z:Nat):Rat):=by rw [Nat.sub_add_cancel (by omega)]
  rw [this]
  have e:((D-z+z:Nat):Rat)=((D-z:Nat):Rat)+(z:Rat):=by simp
  rw [e];grind
 rw [e1,←h1];grind
theorem o_wj {k a w:Nat} (h:GoodS k a w):∃G:Nat,0<G∧G≤2^63∧∀x,x≤15→Gr G 1 (chP k a x):=by
 by_cases hk:k=1
 ·subst hk
  have ha:1≤a∧a≤4:=by
   rcases h.1 with ⟨-,h1,h2⟩ | ⟨h1,-⟩ | ⟨h1,-⟩
   ·exact ⟨h1,h2⟩
   ·omega
   ·omega
  refine ⟨(a+1)^15,Nat.pow_pos (by omega),Nat.le_trans (Nat.pow_le_pow_left (show a+1≤5 by omega) 15) (by decide),fun x hx=>?_⟩
  rw [chP,if_pos rfl]
  unfold chM
  have key:∀n,n≤15→∃z:Nat,mkRat (a:Int) (a+1)^n*(((a+1)^n:Nat):Rat)=(z:Rat)∧z≤(a+1)^n:=by
   intro n
   induction n with
   | zero=>intro _;exact ⟨1,by simp,by simp⟩
   | succ n ih =>
    intro hn
    obtain ⟨z,h1,h2⟩:=ih (by omega)
    refine ⟨z*a,?_,by rw [Nat.pow_succ];exact Nat.mul_le_mul h2 (by omega)⟩
    have e1:mkRat (a:Int) (a+1)*((a+1:Nat):Rat)=(a:Rat):=by
     rw [Rat.mkRat_eq_div]
     have:((a:Int):Rat)=(a:Rat):=rfl
     rw [this]
     exact Rat.div_mul_cancel (o_wi (by omega))
    have e2:(((a+1)^(n+1):Nat):Rat)=(((a+1)^n:Nat):Rat)*((a+1:Nat):Rat):=by rw [Nat.pow_succ];simp
    have e3:((z*a:Nat):Rat)=(z:Rat)*(a:Rat):=by simp
    rw [Rat.pow_succ,e2,e3,←h1,←e1];grind
  obtain ⟨z,h1,h2⟩:=key x hx
  refine ⟨z*(a+1)^(15-x),?_,?_⟩
  ·have e1:(((a+1)^15:Nat):Rat)=(((a+1)^x:Nat):Rat)*(((a+1)^(15-x):Nat):Rat):=by
    have:(a+1)^15=(a+1)^x*(a+1)^(15-x):=by rw [←Nat.pow_add];congr 1;omega
    rw [this];simp
   have e2:((z*(a+1)^(15-x):Nat):Rat)=(z:Rat)*(((a+1)^(15-x):Nat):Rat):=by simp
   rw [e1,e2,←h1];grind
  ·rw [Nat.one_mul,show (a+1)^15=(a+1)^x*(a+1)^(15-x) by rw [←Nat.pow_add];congr 1;omega]
   exact Nat.mul_le_mul_right _ h2
 ·refine ⟨2^63,by decide,Nat.le_refl _,fun x hx=>?_⟩
  rw [chP,if_neg hk]
  have he:=o_qf h hk hx
  generalize expOf k a x=e at *
  refine ⟨2^(63-e),?_,by rw [Nat.one_mul];exact Nat.pow_le_pow_right (by decide) (by omega)⟩
  have e1:mkRat 1 (2^e)*((2^e:Nat):Rat)=1:=by
   rw [Rat.mkRat_eq_div]
   have:=Rat.div_mul_cancel (a:=((1:Int):Rat)) (o_wi (Nat.two_pow_pos e))
   simpa using this
  have e2:((2^63:Nat):Rat)=((2^e:Nat):Rat)*((2^(63-e):Nat):Rat):=by
   have:2^63=2^e*2^(63-e):=by rw [←Nat.pow_add];congr 1;omega
   rw [this];simp
  rw [e2,←Rat.mul_assoc,e1];grind
end
section
open Go.RowKit
theorem o_wk (q:Rat) (out K:Sp) (j:Nat) (h:j<K.length):innQ q out (K.take (j+1))=addQ (innQ q out (K.take j)) K[j].1 (q*K[j].2):=by
 unfold innQ;rw [List.take_add_one,List.getElem?_eq_getElem h,Option.toList,List.foldl_append];rfl
def outQ (next:St→Sp) (A:Sp) (i:Nat):Sp:=(A.take i).foldl (fun out a=>innQ a.2 out (atQ (next a.1))) []
theorem o_wl (next:St→Sp) (A:Sp) (i:Nat) (h:i<A.length):outQ next A (i+1)=innQ A[i].2 (outQ next A i) (atQ (next A[i].1)):=by
 unfold outQ;rw [List.take_add_one,List.getElem?_eq_getElem h,Option.toList,List.foldl_append];rfl
theorem o_wm (next:St→Sp) (l:Sp):outQ next (atQ l) (atQ l).length=timesQ next l:=by unfold outQ timesQ;rw [List.take_length]
theorem o_wn {D B:Nat} {l:Sp} (h:∀p∈l,Gr D B p.2) (s:St):Gr D B (getQ l s):=by
 induction l with
 | nil=>exact Gr.zero D B
 | cons p l ih =>
  unfold getQ
  split
  ·exact h p (by simp)
  ·exact ih fun q hq=>h q (by simp [hq])
theorem o_wo {D B:Nat} {q:Rat} {out:Sp} {C:Nat} (ho:∀p∈out,Gr D C p.2):∀(K:Sp),(∀p∈K,Gr D B (q*p.2))→∀p∈innQ q out K,Gr D (C+K.length*B) p.2:=by
 have key:∀(K out:Sp) (C:Nat),(∀p∈out,Gr D C p.2)→(∀p∈K,Gr D B (q*p.2))→∀p∈innQ q out K,Gr D (C+K.length*B) p.2:=by
  intro K
  induction K with
  | nil=>intro out C ho _ p hp;simpa [innQ] using ho p hp
  | cons b K ih =>
   intro out C ho hK p hp
   have h1:∀p∈addQ out b.1 (q*b.2),Gr D (C+B) p.2:=by
    intro p hp
    rcases o_uj hp with hp | rfl
    ·exact (ho p hp).le (by omega)
    ·exact (o_wn ho _).add (hK b (by simp))
   have:=ih (addQ out b.1 (q*b.2)) (C+B) h1 (fun p hp=>hK p (by simp [hp])) p hp
   refine this.le (Nat.le_of_eq ?_)
   rw [List.length_cons,Nat.add_mul,Nat.one_mul];omega
 exact fun K=>key K out C ho
theorem o_wp {D E B J:Nat} {next:St→Sp} {A:Sp} (hA:∀p∈A,Gr D B p.2) (hN:∀p∈A,(∀r∈next p.1,Gr E 1 r.2)∧(atQ (next p.1)).length≤J):∀i,i≤A.length→∀p∈outQ next A i,Gr (D*E) (i*J*B) p.2
 | 0,_=>fun p hp=>by simp [outQ] at hp
 | i+1,hi=>by
  have hi':i<A.length:=hi
  have ih:=o_wp hA hN i (by omega)
  rw [o_wl next A i hi']
  obtain ⟨h1,h2⟩:=hN A[i] (List.getElem_mem hi')
  have hm:∀p∈atQ (next A[i].1),Gr (D*E) B (A[i].2*p.2):=fun p hp=>by
   have:=(hA A[i] (List.getElem_mem hi')).mul (h1 p (List.mem_filter.1 ((o_u5 _).mem_iff.1 hp)).1)
   rwa [Nat.mul_one] at this
  intro p hp
  refine (o_wo ih _ hm p hp).le ?_
  have:=Nat.mul_le_mul_right B h2
  rw [Nat.add_mul i 1 J,Nat.one_mul,Nat.add_mul];omega
theorem o_wq {top:Nat} {c:Nat→Rat} (s:St):nzQ (stepQ top c s)≠[]:=by
 intro h
 have h1:=(o_ui (fun _=>1) top c s).2
 have h2:exQ (fun _=>(1:Rat)) (stepQ top c s)=1:=by
  rw [h1];split
  ·rfl
  ·grind
 have h3:=o_tz (fun _=>(1:Rat)) (stepQ top c s)
 rw [show (stepQ top c s).filter (fun p=>decide (p.2≠0))=nzQ (stepQ top c s) from rfl,h] at h3
 rw [h2] at h3
 exact absurd h3 (by decide)
theorem o_wr (l:Sp) (s:St) (q:Rat):(setQ l s q).length≤l.length+1:=by
 induction l with
 | nil=>simp [setQ]
 | cons p l ih=>unfold setQ;split<;>simp<;>omega
theorem o_ws (top:Nat) (c:Nat→Rat) (s:St):(stepQ top c s).length≤2:=by
 unfold stepQ
 split
 ·simp
 ·unfold eitQ addQ
  have:=o_wr (setQ [] (s.1+1,s.2) (getQ [] (s.1+1,s.2)+c s.1)) s (getQ (setQ [] (s.1+1,s.2) (getQ [] (s.1+1,s.2)+c s.1)) s+(1-c s.1))
  have h2:=o_wr [] (s.1+1,s.2) (getQ [] (s.1+1,s.2)+c s.1)
  simp at h2
  omega
theorem o_wt (l:Sp):(atQ l).length≤l.length:=by
 rw [(o_u5 l).length_eq];exact List.length_filter_le _ _
theorem o_wu {G top:Nat} {c:Nat→Rat} (hc:∀x,x<top→Gr G 1 (c x)) (s:St) (hs:s.1≤top):∀p∈stepQ top c s,Gr G 1 p.2:=by
 unfold stepQ
 split
 ·intro p hp;simp at hp;subst hp;exact Gr.one G
 ·rename_i e
  have h1:=hc s.1 (by omega)
  have hne:¬s=(s.1+1,s.2):=fun h=>by have:=congrArg Prod.fst h;simp at this
  intro p hp
  unfold eitQ at hp
  rcases o_uj hp with hp | rfl
  ·rcases o_uj hp with hp | rfl
   ·cases hp
   ·have:=(Gr.zero G 0).add h1
    simpa [getQ] using this
  ·have h2:getQ (addQ [] (s.1+1,s.2) (c s.1)) s=0:=by unfold addQ;rw [o_tp,if_neg hne];rfl
   show Gr G 1 (getQ (addQ [] (s.1+1,s.2) (c s.1)) s+(1-c s.1))
   rw [h2]
   have:=(Gr.zero G 0).add h1.sub1
   simpa using this
end
section
open Go.RowKit
def PO (k a w:Nat):Ob:=⟨27,[.d (.int .i64 k),.d (.int .i64 a),.d (.int .i64 w)]⟩
theorem o_wv (A:Sp) (i:Nat) (hi:i<A.length):∃(s1 s2:Nat) (s3:Bool) (q:Rat) (N1 N2 N3:D),A[i]=((s1,s2,s3),q)∧rcD q=[N1,N2,N3]∧((spD rcD A).drop (i*6)).take 6=[.int .i64 s1,.int .i64 s2,.bool s3,N1,N2,N3]:=by
 obtain ⟨⟨⟨s1,s2,s3⟩,q⟩,hp⟩:∃p,A[i]=p:=⟨_,rfl⟩
 have h6:=o_ox (n:=6) (f:=atomC) o_vn A i hi
 rw [hp,←o_vo] at h6
 exact ⟨s1,s2,s3,q,_,_,_,hp,rfl,by rw [h6];rfl⟩
set_option maxHeartbeats 4000000 in
theorem o_ww {k a w:Nat} (h:GoodS k a w) (l:Sp) (G D B:Nat) (hu:Uq l) (hok:oklQ (topC w) l) (hnz:nzQ l≠[]) (h12:(nzQ l).length≤40) (hl:l.length≤1000000) (hD:0<D) (hB:1≤B) (hgl:∀p∈l,Gr D B p.2) (hG:0<G) (hc:∀x,x≤15→Gr G 1 (chP k a x)) (hsz:size (80*B*(D*G))≤100000) :
  Eqn Tryz.prog o_87 [.mp 0,.fn (.func o_8a) [.p 1 0]] [spO l,PO k a w] (.mp 2) [spO l,PO k a w,spO (timesQ (stepQ (topC w) (chP k a)) l)]:=by
 refine Eqn.gen [0,1,2] o_89 (by simp) (by simp) (by rfl) (by decide) (by simp) (by simp [spO,PO]) ?_
 have h15:topC w≤15:=by have:=Nat.pow_le_pow_right (n:=2) (by omega) h.2.2;unfold topC;omega
 obtain ⟨next,hnext⟩:∃f,f=stepQ (topC w) (chP k a):=⟨_,rfl⟩
 obtain ⟨A,hA⟩:∃A,A=atQ l:=⟨_,rfl⟩
 have hAl:A.length≤40:=by rw [hA,(o_u5 l).length_eq];exact h12
 have hA0:1≤A.length:=by
  rw [hA,(o_u5 l).length_eq]
  rcases Nat.eq_zero_or_pos (nzQ l).length with e | e
  ·exact absurd (List.eq_nil_of_length_eq_zero e) hnz
  ·exact e
 have hAm:∀p∈A,p∈l:=fun p hp=>(List.mem_filter.1 ((o_u5 l).mem_iff.1 (hA▸hp))).1
 have hDG:0<D*G:=Nat.mul_pos hD hG
 have hBD:size (B*D)≤100000:=by
  refine Nat.le_trans (o_k5 ?_) hsz
  calc B*D=B*D*1:=(Nat.mul_one _).symm
   _≤B*D*(80*G):=Nat.mul_le_mul_left _ (by omega)
   _=80*B*(D*G):=by simp [Nat.mul_comm,Nat.mul_left_comm,Nat.mul_assoc]
 have hat:=o_wh l hu hnz h12 hl (fun p hp=>(hgl p hp).rs hD hB hBD)
 have hGs:size (1*G)≤100000:=by
  refine Nat.le_trans (o_k5 ?_) hsz
  calc 1*G≤(80*B*D)*G:=Nat.mul_le_mul_right _ (Nat.mul_pos (by omega) hD)
   _=80*B*(D*G):=by rw [Nat.mul_assoc]
 have hgn:∀s:St,s.1≤topC w→∀p∈next s,Gr G 1 p.2:=fun s hs=>by rw [hnext];exact o_wu (fun x hx=>hc x (by omega)) s hs
 have hnl:∀s,(atQ (next s)).length≤2:=fun s=>Nat.le_trans (o_wt _) (by rw [hnext];exact o_ws _ _ _)
 have hout:=o_wp (D:=D) (E:=G) (B:=B) (J:=2) (next:=next) (A:=A) (fun p hp=>hgl p (hAm p hp)) (fun p hp=>⟨hgn p.1 (hok p (hAm p hp)).1.1,hnl p.1⟩)
 have hon:=o_wl next A
 have hoa:outQ next A A.length=timesQ next l:=by rw [hA];exact o_wm next l
 have hADl:=o_tn rcD (fun _=>rfl) A
 have hget:=o_wv A
 rw [←hnext,←hoa]
 rw [←hA] at hat
 have hcl:∀s:St,s.1≤topC w→Eqn Tryz.prog o_8a [.d (.agg (stD s)),.p 0 0] [PO k a w] (.mp 1) [PO k a w,spO (next s)]∧Eqn Tryz.prog o_7v [.mp 0] [spO (next s)] (.d (.sl (atQ (next s)).length (spD rcD (atQ (next s))))) [spO (next s)]:=fun s hs=>by
  refine ⟨by rw [hnext];exact o_vm h s hs,o_wh _ (by rw [hnext];exact (o_ui (fun _=>0) _ _ s).1) (by rw [hnext];exact o_wq s) ?_ ?_ fun p hp=>(hgn s hs p hp).rs hG (Nat.le_refl _) hGs⟩
  ·exact Nat.le_trans (List.length_filter_le _ _) (Nat.le_trans (by rw [hnext];exact o_ws _ _ _) (by omega))
  ·exact Nat.le_trans (by rw [hnext];exact o_ws _ _ _) (by omega)
 have hAok:∀p∈A,p.1.1≤topC w:=fun p hp=>(hok p (hAm p hp)).1.1
 clear hnext hA hoa hnz
 refine cc (c':=?z179) ?_ ?_
 case refine_1=>cbv<;>exact rfl
 try simp only [spO,PO] at hat hcl ⊢
 generalize hLl:spD rcD l=LL at *
 refine A00 ?_;try with_reducible exact tt
 refine CallS.g [0] (hat) (R0 ?_);try with_reducible exact tt
 refine AW.loopG (α:=Nat) (fun i=>setS (List.replicate 40 .junk) [(1,.fn (.func o_8a) [.p 1 0]),(5,.mp 2),(12,.d (.sl A.length (spD rcD A))),(13,.d (.int .i64 A.length)),(14,.d (.int .i64 (i:Nat)))]) (fun i=>[some ⟨1000391,LL.map .d⟩,some ⟨27,[.d (.int .i64 k),.d (.int .i64 a),.d (.int .i64 w)]⟩,some ⟨1000391,(spD rcD (outQ next A i)).map .d⟩]) (fun i=>i≤A.length) (fun i=>A.length-i) 0 ?_ (Nat.zero_le _) ?_ ?_ ?_
 ·intro i hi;simp
 ·simp
 ·simp [outQ,spD]
 rintro i hi
 simp
 by_cases hi2:i<A.length
 ·have hi3:(i:Int)<A.length:=by omega
  obtain ⟨s1,s2,s3,q,N1,N2,N3,hp,hN,hg⟩:=hget i hi2
  have hsk:=hAok _ (List.getElem_mem hi2)
  rw [hp] at hsk
  obtain ⟨hof,han⟩:=hcl (s1,s2,s3) hsk
  have hgq:Gr D B q:=by have:=hgl _ (hAm _ (List.getElem_mem hi2));rw [hp] at this;exact this
  have hon1:=hon i hi2
  rw [hp] at hon1
  simp only at hon1
  have hgo:=hout i hi
  have hn2:=hnl (s1,s2,s3)
  have hgn2:=hgn (s1,s2,s3) hsk
  obtain ⟨C,hC⟩:∃C,C=atQ (next (s1,s2,s3)):=⟨_,rfl⟩
  have hCm:∀p∈C,Gr G 1 p.2:=fun p hp=>hgn2 p (List.mem_filter.1 ((o_u5 _).mem_iff.1 (hC▸hp))).1
  rw [←hC] at hon1 han hn2
  have hCl:=o_tn rcD (fun _=>rfl) C
  have hgetC:=o_wv C
  have ewi:IntKind.i64.wrap ((i:Int)+1)=((i+1:Nat):Int):=by rw [w64 (by omega) (by omega)];omega
  simp only [stD] at hof han
  generalize hNL:spD rcD (next (s1,s2,s3))=NL at *
  have hb6:i*6+6≤A.length*6:=by omega
  have hb7:i*6<A.length*6:=by omega
  refine A10 (fs hi2 (fs hi3 (fs hg (fs hADl (fs hb6 hb7))))) ?_;try with_reducible exact tt
  refine CallS.g [1] (hof) (R0 ?_);try with_reducible exact tt
  refine CallS.g [4] (han) (R0 ?_);try with_reducible exact tt
  refine AW.loopG (α:=Nat) (fun j=>setS (List.replicate 40 .junk) [(1,.fn (.func o_8a) [.p 1 0]),(5,.mp 2),(7,.p 3 0),(12,.d (.sl A.length (spD rcD A))),(13,.d (.int .i64 A.length)),(14,.d (.int .i64 (i:Nat))),(22,.d (.sl C.length (spD rcD C))),(23,.d (.int .i64 C.length)),(24,.d (.int .i64 (j:Nat)))]) (fun j=>[some ⟨1000391,LL.map .d⟩,some ⟨27,[.d (.int .i64 k),.d (.int .i64 a),.d (.int .i64 w)]⟩,some ⟨1000391,(spD rcD (innQ q (outQ next A i) (C.take j))).map .d⟩,some ⟨48,[.d (.int .i64 s1),.d (.int .i64 s2),.d (.bool s3),.d N1,.d N2,.d N3]⟩]) (fun j=>j≤C.length) (fun j=>C.length-j) 0 ?_ (Nat.zero_le _) ?_ ?_ ?_
  ·intro j hj;simp
  ·simp
  ·simp [innQ]
  rintro j hj
  simp
  by_cases hj2:j<C.length
  ·have hj3:(j:Int)<C.length:=by omega
   obtain ⟨t1,t2,t3,r,M1,M2,M3,hpc,hM,hgc⟩:=hgetC j hj2
   have hinn:=o_wk q (outQ next A i) C j hj2
   have hgr:=hCm _ (List.getElem_mem hj2)
   rw [hpc] at hinn hgr
   simp only at hinn hgr
   have hqr:=hgq.mul hgr
   have hgi:=o_wo (q:=q) (B:=B) hgo (C.take j) (fun p hp=>by
    have:=hgq.mul (hCm p (List.mem_of_mem_take hp))
    rwa [Nat.mul_one] at this)
   have hget2:=(o_wn hgi (t1,t2,t3)).le (C:=80*B) (by
    have e1:(C.take j).length≤2:=by rw [List.length_take];omega
    have e2:=Nat.mul_le_mul_right B e1
    have e3:i*2*B≤78*B:=Nat.mul_le_mul_right _ (by omega)
    omega)
   have hq1:=hgq.rs hD hB hBD
   have hr1:=hgr.rs hG (Nat.le_refl _) hGs
   have hmul:=o_o4 q r hq1 hr1
   have hadd:=o_ux (innQ q (outQ next A i) (C.take j)) (t1,t2,t3) (q*r) (hget2.rs hDG (by omega) hsz) ((hqr.le (C:=80*B) (by omega)).rs hDG (by omega) hsz)
   have ewj:IntKind.i64.wrap ((j:Int)+1)=((j+1:Nat):Int):=by rw [w64 (by omega) (by omega)];omega
   have hc6:j*6+6≤C.length*6:=by omega
   have hc7:j*6<C.length*6:=by omega
   rw [←hinn] at hadd
   rw [o_uu q,o_uu r,o_uu (q*r),hN,hM] at hmul
   rw [o_uu (q*r)] at hadd
   obtain ⟨P1,P2,P3,hP⟩:∃P1 P2 P3,rcD (q*r)=[P1,P2,P3]:=⟨_,_,_,rfl⟩
   rw [hP] at hmul hadd
   simp only [spO,stD] at hadd
   refine A10 (fs hj2 (fs hj3 (fs hgc (fs hCl (fs hc6 hc7))))) ?_;try with_reducible exact tt
   refine CallS.pu (hmul) (R0 ?_);try with_reducible exact tt
   refine CallS.g [2] (hadd) (R0 ?_);try with_reducible exact tt
   refine A10 ewj ?_;try with_reducible exact tt
   refine ⟨j+1,2,2,⟨by omega,by omega,by omega,by omega⟩,by omega,by omega,?_,?_⟩
   ·simp [swT,swH,sw,Ob.sw,V.ren,V.rens]
   ·simp [swT,swH,sw,Ob.sw,V.ren,V.rens]
  ·have h2:j=C.length:=by omega
   subst h2
   rw [List.take_length,←hon1]
   refine A00 ?_;try with_reducible exact tt
   refine A10 ewi ?_;try with_reducible exact tt
   refine ⟨i+1,2,2,⟨by omega,by omega,by omega,by omega⟩,by omega,by omega,?_,?_⟩
   ·simp [swT,swH,sw,Ob.sw,V.ren,V.rens]
   ·simp [swT,swH,sw,Ob.sw,V.ren,V.rens]
 ·have h2:i=A.length:=by omega
  subst h2
  refine A00 ?_;try with_reducible exact tt
end
section
open Go.RowKit
theorem o_wx {k a w:Nat} (h:GoodR k a w) (s:St) (hw:WellR k a w s.1 s.2.1 s.2.2):Eqn Tryz.prog o_ah [.d (.agg (stD s)),.p 0 0] [PO k a w] (.d (.bool false)) [PO k a w]:=by
 refine Eqn.gen [0] o_aj (by simp) (by simp) (by rfl) (by decide) (by simp) (by simp [PO]) ?_
 have hwl:=o_qv h s.1 s.2.1 s.2.2
 rw [o_qu.2 hw] at hwl
 refine cc (c':=?z180) ?_ ?_
 case refine_1=>cbv<;>exact rfl
 try simp only [PO,stD,parD,tsD] at hwl ⊢
 refine A00 ?_;try with_reducible exact tt
 refine CallS.pu (hwl) (R0 ?_);try with_reducible exact tt
theorem o_wy {k a w:Nat} (h:GoodR k a w) (s:St) (hw:WellR k a w s.1 s.2.1 s.2.2):Eqn Tryz.prog o_dk [.d (.sl 1 (stD s)),.fn (.func o_ah) [.p 0 0]] [PO k a w] (.d (.int .i64 (-1))) [PO k a w]:=by
 refine Eqn.gen [0] o_dm (by simp) (by simp) (by rfl) (by decide) (by simp) (by simp [PO]) ?_
 have hw1:=o_wx h s hw
 refine cc (c':=?z181) ?_ ?_
 case refine_1=>cbv<;>exact rfl
 try simp only [PO,stD] at hw1 ⊢
 refine A00 ?_;try with_reducible exact tt
 refine AW.rounds 2 ?_
 refine A00 ?_;try with_reducible exact tt
 refine CallS.g [0] (hw1) (R0 ?_);try with_reducible exact tt
 refine A00 ?_;try with_reducible exact tt
theorem o_wz {k a w:Nat} (h:GoodR k a w) (s:St) (hw:WellR k a w s.1 s.2.1 s.2.2):Eqn Tryz.prog o_ae [.d (.sl 1 (stD s)),.fn (.func o_ah) [.p 0 0]] [PO k a w] (.d (.bool false)) [PO k a w]:=by
 refine Eqn.gen [0] o_ag (by simp) (by simp) (by rfl) (by decide) (by simp) (by simp [PO]) ?_
 have hi:=o_wy h s hw
 refine cc (c':=?z182) ?_ ?_
 case refine_1=>cbv<;>exact rfl
 try simp only [PO,stD] at hi ⊢
 refine A00 ?_;try with_reducible exact tt
 refine CallS.g [0] (hi) (R0 ?_);try with_reducible exact tt
theorem o_x0 {k a w:Nat} (h:GoodR k a w) (s:St) (hw:WellR k a w s.1 s.2.1 s.2.2):Eqn Tryz.prog o_7y [.d (parD k a w),.d (.sl 1 (stD s))] [] (.d (.int .i64 0)) []:=by
 refine Eqn.pure o_80 Plain.ok ?_
 have hc:=o_qt h
 have hi:=o_wz h s hw
 refine cc (c':=?z183) ?_ ?_
 case refine_1=>cbv<;>exact rfl
 try simp only [PO,stD,parD] at hc hi ⊢
 refine A00 ?_;try with_reducible exact tt
 refine CallS.pu (hc) (R0 ?_);try with_reducible exact tt
 refine A00 ?_;try with_reducible exact tt
 refine CallS.g [0] (hi) (R0 ?_);try with_reducible exact tt
 refine A00 ?_;try with_reducible exact tt
theorem o_x1 {k a w:Nat} (hk:k≠4) (hw:w≤10):Eqn Tryz.prog o_81 [.d (parD k a w)] [] (.d (.int .i64 (2^w:Nat))) []:=by
 refine Eqn.pure o_83 Plain.ok ?_
 have hk':¬(k:Int)=4:=by omega
 have e0:(2:Int)^w=(2^w:Nat):=by rw [Int.natCast_pow];rfl
 have h2:2^w≤1024:=Nat.pow_le_pow_right (n:=2) (by omega) hw
 refine cc (c':=?z184) ?_ ?_
 case refine_1=>cbv<;>exact rfl
 try simp only [parD]
 generalize 2^w=S at *
 have e1:IntKind.i64.wrap (S:Int)=S:=w64 (by omega) (by omega)
 refine A10 (fs hk (fs hk' (fs e0 e1))) ?_;try with_reducible exact tt
end
section
open Go.RowKit
def kyQ (P:St→Prop) (l:Sp):Prop:=∀p∈l,P p.1
theorem o_x2 {P:St→Prop} {q:Rat}:∀{l out:Sp},kyQ P out→kyQ P l→kyQ P (innQ q out l)
 | [],out,h,_=>h
 | b::l,out,h,hl=>o_x2 (out:=addQ out b.1 (q*b.2)) (l:=l) (fun p hp=>by
   rcases o_uj hp with hp | rfl
   ·exact h p hp
   ·exact hl b (by simp)) fun p hp=>hl p (by simp [hp])
theorem o_x3 {P:St→Prop} {l:Sp} (h:kyQ P l):kyQ P (atQ l):=fun p hp=>h p (List.mem_filter.1 ((o_u5 l).mem_iff.1 hp)).1
theorem o_x4 {P P':St→Prop} {next:St→Sp} (hn:∀s,P s→kyQ P' (next s)) {l:Sp} (h:kyQ P l):kyQ P' (timesQ next l):=by
 have key:∀(k out:Sp),kyQ P' out→kyQ P k→kyQ P' (k.foldl (fun out a=>innQ a.2 out (atQ (next a.1))) out):=by
  intro k
  induction k with
  | nil=>intro out h _;exact h
  | cons a k ih =>
   intro out ho hk
   exact ih _ (o_x2 ho (o_x3 (hn _ (hk a (by simp))))) fun p hp=>hk p (by simp [hp])
 exact key _ _ (fun p hp=>by cases hp) (o_x3 h)
def reach (top k:Nat) (i:Nat) (t:St):Prop:=t=(top,0,true)∨t.2=(0,false)∧k≤t.1∧t.1≤k+i∧t.1≤top
theorem o_x5 {top k i:Nat} {c:Nat→Rat} {t:St} (h:reach top k i t):kyQ (reach top k (i+1)) (stepQ top c t):=by
 obtain ⟨a,b,f⟩:=t
 unfold stepQ
 split
 ·rename_i e
  intro p hp
  simp at hp;subst hp
  left
  rcases h with h | ⟨h,-⟩
  ·have h1:=congrArg (fun x:St=>x.2.1) h
   simp only at e h1
   rw [e,h1]
  ·simp only [Prod.mk.injEq] at h
   simp only at e
   rw [e,h.1]
 ·rename_i e
  simp only at e
  rcases h with h | ⟨h,h1,h2,h3⟩
  ·exact absurd (congrArg (fun x:St=>x.1) h) e
  ·simp only at h h1 h2 h3
   intro p hp
   unfold eitQ at hp
   rcases o_uj hp with hp | rfl
   ·rcases o_uj hp with hp | rfl
    ·cases hp
    ·exact .inr ⟨h,by simp only;omega,by simp only;omega,by simp only;omega⟩
   ·exact .inr ⟨h,h1,by simp only;omega,h3⟩
theorem o_x6 {top:Nat} {c:Nat→Rat} {s:St} (hs:okQ top s):∀i,kyQ (reach top s.1 i) (ofQ (stepQ top c) s i)
 | 0=>fun p hp=>by
  simp [ofQ] at hp;subst hp
  obtain ⟨a,b,f⟩:=s
  obtain ⟨h1,h2,h3⟩:=hs
  simp only at h1 h2 h3
  subst h2
  cases f with
  | false=>exact .inr ⟨rfl,Nat.le_refl _,Nat.le_refl _,h1⟩
  | true=>left;rw [h3 rfl]
 | i+1=>o_x4 (fun t ht=>o_x5 ht) (o_x6 hs i)
theorem o_x7 {top:Nat} {c:Nat→Rat} (s:St) (n:Nat):nzQ (ofQ (stepQ top c) s n)≠[]:=by
 intro h
 have h2:=o_ur (top:=top) (c:=c) s n
 have h3:=o_tz (fun _=>(1:Rat)) (ofQ (stepQ top c) s n)
 rw [show (ofQ (stepQ top c) s n).filter (fun p=>decide (p.2≠0))=nzQ (ofQ (stepQ top c) s n) from rfl,h] at h3
 rw [h2] at h3
 exact absurd h3 (by decide)
theorem o_x8 (a:Nat) (h:size a≤1):∀n,size (a^n)≤n+1
 | 0=>Nat.le_trans (by decide:size 1≤1) (by omega)
 | n+1=>by
  rw [Nat.pow_succ]
  have:=o_nq (a^n) a
  have:=o_x8 a h n
  omega
theorem o_x9 {k a w:Nat} (h:GoodS k a w):(∀x,x<topC w→0≤chP k a x)∧(∀x,x<topC w→chP k a x≤1):=by
 have h15:topC w≤15:=by have:=Nat.pow_le_pow_right (n:=2) (by omega) h.2.2;unfold topC;omega
 obtain ⟨G,hG,-,hc⟩:=o_wj h
 have hp:(0:Rat)<(G:Rat):=by exact_mod_cast hG
 refine ⟨fun x hx=>?_,fun x hx=>?_⟩
 ·obtain ⟨z,h1,h2⟩:=hc x (by omega)
  apply Classical.byContradiction
  intro hn
  have hz:(0:Rat)≤(z:Rat):=by exact_mod_cast Nat.zero_le z
  have:=Rat.mul_lt_mul_of_pos_right (Rat.not_le.1 hn) hp
  grind
 ·obtain ⟨z,h1,h2⟩:=hc x (by omega)
  apply Classical.byContradiction
  intro hn
  have hz:(z:Rat)≤(G:Rat):=by exact_mod_cast (by omega:z≤G)
  have:=Rat.mul_lt_mul_of_pos_right (Rat.not_le.1 hn) hp
  grind
end
section
open Go.RowKit
def dstQ (k a w:Nat) (s:St) (n:Nat):Sp:=ofQ (stepQ (topC w) (chP k a)) s n
end
section
open Go.RowKit
structure NextOK (next:St→Sp) (G:Nat) (s:St):Prop where
 uq:Uq (next s)
 nz:nzQ (next s)≠[]
 len:(next s).length≤2
 gr:∀p∈next s,Gr G 1 p.2
set_option maxHeartbeats 4000000 in
theorem o_xa {f:FuncId} {next:St→Sp} {T1:TypeId} {x0 x1 x2:D} (ho1:T1<1000000) (P:St→Prop) (l:Sp) (G D B:Nat) (hu:Uq l) (hok:∀p∈nzQ l,P p.1) (hnz:nzQ l≠[]) (h12:(nzQ l).length≤40) (hl:l.length≤1000000) (hD:0<D) (hB:1≤B) (hgl:∀p∈l,Gr D B p.2) (hG:0<G) (hf:∀s:St,P s→NextOK next G s∧Eqn Tryz.prog f [.d (.agg (stD s)),.p 0 0] [⟨T1,[.d x0,.d x1,.d x2]⟩] (.mp 1) [⟨T1,[.d x0,.d x1,.d x2]⟩,spO (next s)]) (hsz:size (80*B*(D*G))≤100000) :
  Eqn Tryz.prog o_87 [.mp 0,.fn (.func f) [.p 1 0]] [spO l,⟨T1,[.d x0,.d x1,.d x2]⟩] (.mp 2) [spO l,⟨T1,[.d x0,.d x1,.d x2]⟩,spO (timesQ next l)]:=by
 refine Eqn.gen [0,1,2] o_89 (by simp) (by simp) (by rfl) (by decide) (by simp) (by simp [spO,ho1]) ?_
 obtain ⟨A,hA⟩:∃A,A=atQ l:=⟨_,rfl⟩
 have hAl:A.length≤40:=by rw [hA,(o_u5 l).length_eq];exact h12
 have hA0:1≤A.length:=by
  rw [hA,(o_u5 l).length_eq]
  rcases Nat.eq_zero_or_pos (nzQ l).length with e | e
  ·exact absurd (List.eq_nil_of_length_eq_zero e) hnz
  ·exact e
 have hAm:∀p∈A,p∈l:=fun p hp=>(List.mem_filter.1 ((o_u5 l).mem_iff.1 (hA▸hp))).1
 have hAz:∀p∈A,p∈nzQ l:=fun p hp=>(o_u5 l).mem_iff.1 (hA▸hp)
 have hDG:0<D*G:=Nat.mul_pos hD hG
 have hBD:size (B*D)≤100000:=by
  refine Nat.le_trans (o_k5 ?_) hsz
  calc B*D=B*D*1:=(Nat.mul_one _).symm
   _≤B*D*(80*G):=Nat.mul_le_mul_left _ (by omega)
   _=80*B*(D*G):=by simp [Nat.mul_comm,Nat.mul_left_comm,Nat.mul_assoc]
 have hat:=o_wh l hu hnz h12 hl (fun p hp=>(hgl p hp).rs hD hB hBD)
 have hGs:size (1*G)≤100000:=by
  refine Nat.le_trans (o_k5 ?_) hsz
  calc 1*G≤(80*B*D)*G:=Nat.mul_le_mul_right _ (Nat.mul_pos (by omega) hD)
   _=80*B*(D*G):=by rw [Nat.mul_assoc]
 have hgn:∀s:St,P s→∀p∈next s,Gr G 1 p.2:=fun s hs=>(hf s hs).1.gr
 have hnl:∀s:St,P s→(atQ (next s)).length≤2:=fun s hs=>Nat.le_trans (o_wt _) (hf s hs).1.len
 have hout:=o_wp (D:=D) (E:=G) (B:=B) (J:=2) (next:=next) (A:=A) (fun p hp=>hgl p (hAm p hp)) (fun p hp=>⟨hgn p.1 (hok p (hAz p hp)),hnl p.1 (hok p (hAz p hp))⟩)
 have hon:=o_wl next A
 have hoa:outQ next A A.length=timesQ next l:=by rw [hA];exact o_wm next l
 have hADl:=o_tn rcD (fun _=>rfl) A
 have hget:=o_wv A
 rw [←hoa]
 rw [←hA] at hat
 have hcl:∀s:St,P s→Eqn Tryz.prog f [.d (.agg (stD s)),.p 0 0] [⟨T1,[.d x0,.d x1,.d x2]⟩] (.mp 1) [⟨T1,[.d x0,.d x1,.d x2]⟩,spO (next s)]∧Eqn Tryz.prog o_7v [.mp 0] [spO (next s)] (.d (.sl (atQ (next s)).length (spD rcD (atQ (next s))))) [spO (next s)]:=fun s hs=>by
  obtain ⟨hn,hh⟩:=hf s hs
  refine ⟨hh,o_wh _ hn.uq hn.nz ?_ ?_ fun p hp=>(hgn s hs p hp).rs hG (Nat.le_refl _) hGs⟩
  ·exact Nat.le_trans (List.length_filter_le _ _) (Nat.le_trans hn.len (by omega))
  ·exact Nat.le_trans hn.len (by omega)
 have hAok:∀p∈A,P p.1:=fun p hp=>hok p (hAz p hp)
 clear hA hoa hnz hf
 refine cc (c':=?z186) ?_ ?_
 case refine_1=>cbv<;>exact rfl
 try simp only [spO] at hat hcl ⊢
 generalize hLl:spD rcD l=LL at *
 refine A00 ?_;try with_reducible exact tt
 refine CallS.g [0] (hat) (R0 ?_);try with_reducible exact tt
 refine AW.loopG (α:=Nat) (fun i=>setS (List.replicate 40 .junk) [(1,.fn (.func f) [.p 1 0]),(5,.mp 2),(12,.d (.sl A.length (spD rcD A))),(13,.d (.int .i64 A.length)),(14,.d (.int .i64 (i:Nat)))]) (fun i=>[some ⟨1000391,LL.map .d⟩,some ⟨T1,[.d x0,.d x1,.d x2]⟩,some ⟨1000391,(spD rcD (outQ next A i)).map .d⟩]) (fun i=>i≤A.length) (fun i=>A.length-i) 0 ?_ (Nat.zero_le _) ?_ ?_ ?_
 ·intro i hi;simp
 ·simp
 ·simp [outQ,spD]
 rintro i hi
 simp
 by_cases hi2:i<A.length
 ·have hi3:(i:Int)<A.length:=by omega
  obtain ⟨s1,s2,s3,q,N1,N2,N3,hp,hN,hg⟩:=hget i hi2
  have hsk:=hAok _ (List.getElem_mem hi2)
  rw [hp] at hsk
  obtain ⟨hof,han⟩:=hcl (s1,s2,s3) hsk
  have hgq:Gr D B q:=by have:=hgl _ (hAm _ (List.getElem_mem hi2));rw [hp] at this;exact this
  have hon1:=hon i hi2
  rw [hp] at hon1
  simp only at hon1
  have hgo:=hout i hi
  have hn2:=hnl (s1,s2,s3) hsk
  have hgn2:=hgn (s1,s2,s3) hsk
  obtain ⟨C,hC⟩:∃C,C=atQ (next (s1,s2,s3)):=⟨_,rfl⟩
  have hCm:∀p∈C,Gr G 1 p.2:=fun p hp=>hgn2 p (List.mem_filter.1 ((o_u5 _).mem_iff.1 (hC▸hp))).1
  rw [←hC] at hon1 han hn2
  have hCl:=o_tn rcD (fun _=>rfl) C
  have hgetC:=o_wv C
  have ewi:IntKind.i64.wrap ((i:Int)+1)=((i+1:Nat):Int):=by rw [w64 (by omega) (by omega)];omega
  simp only [stD] at hof han
  generalize hNL:spD rcD (next (s1,s2,s3))=NL at *
  have hb6:i*6+6≤A.length*6:=by omega
  have hb7:i*6<A.length*6:=by omega
  refine A10 (fs hi2 (fs hi3 (fs hg (fs hADl (fs hb6 hb7))))) ?_;try with_reducible exact tt
  refine CallS.g [1] (hof) (R0 ?_);try with_reducible exact tt
  refine CallS.g [4] (han) (R0 ?_);try with_reducible exact tt
  refine AW.loopG (α:=Nat) (fun j=>setS (List.replicate 40 .junk) [(1,.fn (.func f) [.p 1 0]),(5,.mp 2),(7,.p 3 0),(12,.d (.sl A.length (spD rcD A))),(13,.d (.int .i64 A.length)),(14,.d (.int .i64 (i:Nat))),(22,.d (.sl C.length (spD rcD C))),(23,.d (.int .i64 C.length)),(24,.d (.int .i64 (j:Nat)))]) (fun j=>[some ⟨1000391,LL.map .d⟩,some ⟨T1,[.d x0,.d x1,.d x2]⟩,some ⟨1000391,(spD rcD (innQ q (outQ next A i) (C.take j))).map .d⟩,some ⟨48,[.d (.int .i64 s1),.d (.int .i64 s2),.d (.bool s3),.d N1,.d N2,.d N3]⟩]) (fun j=>j≤C.length) (fun j=>C.length-j) 0 ?_ (Nat.zero_le _) ?_ ?_ ?_
  ·intro j hj;simp
  ·simp
  ·simp [innQ]
  rintro j hj
  simp
  by_cases hj2:j<C.length
  ·have hj3:(j:Int)<C.length:=by omega
   obtain ⟨t1,t2,t3,r,M1,M2,M3,hpc,hM,hgc⟩:=hgetC j hj2
   have hinn:=o_wk q (outQ next A i) C j hj2
   have hgr:=hCm _ (List.getElem_mem hj2)
   rw [hpc] at hinn hgr
   simp only at hinn hgr
   have hqr:=hgq.mul hgr
   have hgi:=o_wo (q:=q) (B:=B) hgo (C.take j) (fun p hp=>by
    have:=hgq.mul (hCm p (List.mem_of_mem_take hp))
    rwa [Nat.mul_one] at this)
   have hget2:=(o_wn hgi (t1,t2,t3)).le (C:=80*B) (by
    have e1:(C.take j).length≤2:=by rw [List.length_take];omega
    have e2:=Nat.mul_le_mul_right B e1
    have e3:i*2*B≤78*B:=Nat.mul_le_mul_right _ (by omega)
    omega)
   have hq1:=hgq.rs hD hB hBD
   have hr1:=hgr.rs hG (Nat.le_refl _) hGs
   have hmul:=o_o4 q r hq1 hr1
   have hadd:=o_ux (innQ q (outQ next A i) (C.take j)) (t1,t2,t3) (q*r) (hget2.rs hDG (by omega) hsz) ((hqr.le (C:=80*B) (by omega)).rs hDG (by omega) hsz)
   have ewj:IntKind.i64.wrap ((j:Int)+1)=((j+1:Nat):Int):=by rw [w64 (by omega) (by omega)];omega
   have hc6:j*6+6≤C.length*6:=by omega
   have hc7:j*6<C.length*6:=by omega
   rw [←hinn] at hadd
   rw [o_uu q,o_uu r,o_uu (q*r),hN,hM] at hmul
   rw [o_uu (q*r)] at hadd
   obtain ⟨P1,P2,P3,hP⟩:∃P1 P2 P3,rcD (q*r)=[P1,P2,P3]:=⟨_,_,_,rfl⟩
   rw [hP] at hmul hadd
   simp only [spO,stD] at hadd
   refine A10 (fs hj2 (fs hj3 (fs hgc (fs hCl (fs hc6 hc7))))) ?_;try with_reducible exact tt
   refine CallS.pu (hmul) (R0 ?_);try with_reducible exact tt
   refine CallS.g [2] (hadd) (R0 ?_);try with_reducible exact tt
   refine A10 ewj ?_;try with_reducible exact tt
   refine ⟨j+1,2,2,⟨by omega,by omega,by omega,by omega⟩,by omega,by omega,?_,?_⟩
   ·simp [swT,swH,sw,Ob.sw,V.ren,V.rens]
   ·simp [swT,swH,sw,Ob.sw,V.ren,V.rens]
  ·have h2:j=C.length:=by omega
   subst h2
   rw [List.take_length,←hon1]
   refine A00 ?_;try with_reducible exact tt
   refine A10 ewi ?_;try with_reducible exact tt
   refine ⟨i+1,2,2,⟨by omega,by omega,by omega,by omega⟩,by omega,by omega,?_,?_⟩
   ·simp [swT,swH,sw,Ob.sw,V.ren,V.rens]
   ·simp [swT,swH,sw,Ob.sw,V.ren,V.rens]
 ·have h2:i=A.length:=by omega
  subst h2
  refine A00 ?_;try with_reducible exact tt
set_option maxHeartbeats 4000000 in
theorem o_xb {f:FuncId} {next:St→Sp} {T1 T2:TypeId} {x0 x1 x2 y0 y1 y2:D} (ho1:T1<1000000) (ho2:T2<1000000) (P:St→Prop) (l:Sp) (G D B:Nat) (hu:Uq l) (hok:∀p∈nzQ l,P p.1) (hnz:nzQ l≠[]) (h12:(nzQ l).length≤40) (hl:l.length≤1000000) (hD:0<D) (hB:1≤B) (hgl:∀p∈l,Gr D B p.2) (hG:0<G) (hf:∀s:St,P s→NextOK next G s∧Eqn Tryz.prog f [.d (.agg (stD s)),.p 0 0,.p 1 0] [⟨T1,[.d x0,.d x1,.d x2]⟩,⟨T2,[.d y0,.d y1,.d y2]⟩] (.mp 2) [⟨T1,[.d x0,.d x1,.d x2]⟩,⟨T2,[.d y0,.d y1,.d y2]⟩,spO (next s)]) (hsz:size (80*B*(D*G))≤100000) :
  Eqn Tryz.prog o_87 [.mp 0,.fn (.func f) [.p 1 0,.p 2 0]] [spO l,⟨T1,[.d x0,.d x1,.d x2]⟩,⟨T2,[.d y0,.d y1,.d y2]⟩] (.mp 3) [spO l,⟨T1,[.d x0,.d x1,.d x2]⟩,⟨T2,[.d y0,.d y1,.d y2]⟩,spO (timesQ next l)]:=by
 refine Eqn.gen [0,1,2,3] o_89 (by simp) (by simp) (by rfl) (by decide) (by simp) (by simp [spO,ho1,ho2]) ?_
 obtain ⟨A,hA⟩:∃A,A=atQ l:=⟨_,rfl⟩
 have hAl:A.length≤40:=by rw [hA,(o_u5 l).length_eq];exact h12
 have hA0:1≤A.length:=by
  rw [hA,(o_u5 l).length_eq]
  rcases Nat.eq_zero_or_pos (nzQ l).length with e | e
  ·exact absurd (List.eq_nil_of_length_eq_zero e) hnz
  ·exact e
 have hAm:∀p∈A,p∈l:=fun p hp=>(List.mem_filter.1 ((o_u5 l).mem_iff.1 (hA▸hp))).1
 have hAz:∀p∈A,p∈nzQ l:=fun p hp=>(o_u5 l).mem_iff.1 (hA▸hp)
 have hDG:0<D*G:=Nat.mul_pos hD hG
 have hBD:size (B*D)≤100000:=by
  refine Nat.le_trans (o_k5 ?_) hsz
  calc B*D=B*D*1:=(Nat.mul_one _).symm
   _≤B*D*(80*G):=Nat.mul_le_mul_left _ (by omega)
   _=80*B*(D*G):=by simp [Nat.mul_comm,Nat.mul_left_comm,Nat.mul_assoc]
 have hat:=o_wh l hu hnz h12 hl (fun p hp=>(hgl p hp).rs hD hB hBD)
 have hGs:size (1*G)≤100000:=by
  refine Nat.le_trans (o_k5 ?_) hsz
  calc 1*G≤(80*B*D)*G:=Nat.mul_le_mul_right _ (Nat.mul_pos (by omega) hD)
   _=80*B*(D*G):=by rw [Nat.mul_assoc]
 have hgn:∀s:St,P s→∀p∈next s,Gr G 1 p.2:=fun s hs=>(hf s hs).1.gr
 have hnl:∀s:St,P s→(atQ (next s)).length≤2:=fun s hs=>Nat.le_trans (o_wt _) (hf s hs).1.len
 have hout:=o_wp (D:=D) (E:=G) (B:=B) (J:=2) (next:=next) (A:=A) (fun p hp=>hgl p (hAm p hp)) (fun p hp=>⟨hgn p.1 (hok p (hAz p hp)),hnl p.1 (hok p (hAz p hp))⟩)
 have hon:=o_wl next A
 have hoa:outQ next A A.length=timesQ next l:=by rw [hA];exact o_wm next l
 have hADl:=o_tn rcD (fun _=>rfl) A
 have hget:=o_wv A
 rw [←hoa]
 rw [←hA] at hat
 have hcl:∀s:St,P s→Eqn Tryz.prog f [.d (.agg (stD s)),.p 0 0,.p 1 0] [⟨T1,[.d x0,.d x1,.d x2]⟩,⟨T2,[.d y0,.d y1,.d y2]⟩] (.mp 2) [⟨T1,[.d x0,.d x1,.d x2]⟩,⟨T2,[.d y0,.d y1,.d y2]⟩,spO (next s)]∧Eqn Tryz.prog o_7v [.mp 0] [spO (next s)] (.d (.sl (atQ (next s)).length (spD rcD (atQ (next s))))) [spO (next s)]:=fun s hs=>by
  obtain ⟨hn,hh⟩:=hf s hs
  refine ⟨hh,o_wh _ hn.uq hn.nz ?_ ?_ fun p hp=>(hgn s hs p hp).rs hG (Nat.le_refl _) hGs⟩
  ·exact Nat.le_trans (List.length_filter_le _ _) (Nat.le_trans hn.len (by omega))
  ·exact Nat.le_trans hn.len (by omega)
 have hAok:∀p∈A,P p.1:=fun p hp=>hok p (hAz p hp)
 clear hA hoa hnz hf
 refine cc (c':=?z187) ?_ ?_
 case refine_1=>cbv<;>exact rfl
 try simp only [spO] at hat hcl ⊢
 generalize hLl:spD rcD l=LL at *
 refine A00 ?_;try with_reducible exact tt
 refine CallS.g [0] (hat) (R0 ?_);try with_reducible exact tt
 refine AW.loopG (α:=Nat) (fun i=>setS (List.replicate 40 .junk) [(1,.fn (.func f) [.p 1 0,.p 2 0]),(5,.mp 3),(12,.d (.sl A.length (spD rcD A))),(13,.d (.int .i64 A.length)),(14,.d (.int .i64 (i:Nat)))]) (fun i=>[some ⟨1000391,LL.map .d⟩,some ⟨T1,[.d x0,.d x1,.d x2]⟩,some ⟨T2,[.d y0,.d y1,.d y2]⟩,some ⟨1000391,(spD rcD (outQ next A i)).map .d⟩]) (fun i=>i≤A.length) (fun i=>A.length-i) 0 ?_ (Nat.zero_le _) ?_ ?_ ?_
 ·intro i hi;simp
 ·simp
 ·simp [outQ,spD]
 rintro i hi
 simp
 by_cases hi2:i<A.length
 ·have hi3:(i:Int)<A.length:=by omega
  obtain ⟨s1,s2,s3,q,N1,N2,N3,hp,hN,hg⟩:=hget i hi2
  have hsk:=hAok _ (List.getElem_mem hi2)
  rw [hp] at hsk
  obtain ⟨hof,han⟩:=hcl (s1,s2,s3) hsk
  have hgq:Gr D B q:=by have:=hgl _ (hAm _ (List.getElem_mem hi2));rw [hp] at this;exact this
  have hon1:=hon i hi2
  rw [hp] at hon1
  simp only at hon1
  have hgo:=hout i hi
  have hn2:=hnl (s1,s2,s3) hsk
  have hgn2:=hgn (s1,s2,s3) hsk
  obtain ⟨C,hC⟩:∃C,C=atQ (next (s1,s2,s3)):=⟨_,rfl⟩
  have hCm:∀p∈C,Gr G 1 p.2:=fun p hp=>hgn2 p (List.mem_filter.1 ((o_u5 _).mem_iff.1 (hC▸hp))).1
  rw [←hC] at hon1 han hn2
  have hCl:=o_tn rcD (fun _=>rfl) C
  have hgetC:=o_wv C
  have ewi:IntKind.i64.wrap ((i:Int)+1)=((i+1:Nat):Int):=by rw [w64 (by omega) (by omega)];omega
  simp only [stD] at hof han
  generalize hNL:spD rcD (next (s1,s2,s3))=NL at *
  have hb6:i*6+6≤A.length*6:=by omega
  have hb7:i*6<A.length*6:=by omega
  refine A10 (fs hi2 (fs hi3 (fs hg (fs hADl (fs hb6 hb7))))) ?_;try with_reducible exact tt
  refine CallS.g [1,2] (hof) (R0 ?_);try with_reducible exact tt
  refine CallS.g [5] (han) (R0 ?_);try with_reducible exact tt
  refine AW.loopG (α:=Nat) (fun j=>setS (List.replicate 40 .junk) [(1,.fn (.func f) [.p 1 0,.p 2 0]),(5,.mp 3),(7,.p 4 0),(12,.d (.sl A.length (spD rcD A))),(13,.d (.int .i64 A.length)),(14,.d (.int .i64 (i:Nat))),(22,.d (.sl C.length (spD rcD C))),(23,.d (.int .i64 C.length)),(24,.d (.int .i64 (j:Nat)))]) (fun j=>[some ⟨1000391,LL.map .d⟩,some ⟨T1,[.d x0,.d x1,.d x2]⟩,some ⟨T2,[.d y0,.d y1,.d y2]⟩,some ⟨1000391,(spD rcD (innQ q (outQ next A i) (C.take j))).map .d⟩,some ⟨48,[.d (.int .i64 s1),.d (.int .i64 s2),.d (.bool s3),.d N1,.d N2,.d N3]⟩]) (fun j=>j≤C.length) (fun j=>C.length-j) 0 ?_ (Nat.zero_le _) ?_ ?_ ?_
  ·intro j hj;simp
  ·simp
  ·simp [innQ]
  rintro j hj
  simp
  by_cases hj2:j<C.length
  ·have hj3:(j:Int)<C.length:=by omega
   obtain ⟨t1,t2,t3,r,M1,M2,M3,hpc,hM,hgc⟩:=hgetC j hj2
   have hinn:=o_wk q (outQ next A i) C j hj2
   have hgr:=hCm _ (List.getElem_mem hj2)
   rw [hpc] at hinn hgr
   simp only at hinn hgr
   have hqr:=hgq.mul hgr
   have hgi:=o_wo (q:=q) (B:=B) hgo (C.take j) (fun p hp=>by
    have:=hgq.mul (hCm p (List.mem_of_mem_take hp))
    rwa [Nat.mul_one] at this)
   have hget2:=(o_wn hgi (t1,t2,t3)).le (C:=80*B) (by
    have e1:(C.take j).length≤2:=by rw [List.length_take];omega
    have e2:=Nat.mul_le_mul_right B e1
    have e3:i*2*B≤78*B:=Nat.mul_le_mul_right _ (by omega)
    omega)
   have hq1:=hgq.rs hD hB hBD
   have hr1:=hgr.rs hG (Nat.le_refl _) hGs
   have hmul:=o_o4 q r hq1 hr1
   have hadd:=o_ux (innQ q (outQ next A i) (C.take j)) (t1,t2,t3) (q*r) (hget2.rs hDG (by omega) hsz) ((hqr.le (C:=80*B) (by omega)).rs hDG (by omega) hsz)
   have ewj:IntKind.i64.wrap ((j:Int)+1)=((j+1:Nat):Int):=by rw [w64 (by omega) (by omega)];omega
   have hc6:j*6+6≤C.length*6:=by omega
   have hc7:j*6<C.length*6:=by omega
   rw [←hinn] at hadd
   rw [o_uu q,o_uu r,o_uu (q*r),hN,hM] at hmul
   rw [o_uu (q*r)] at hadd
   obtain ⟨P1,P2,P3,hP⟩:∃P1 P2 P3,rcD (q*r)=[P1,P2,P3]:=⟨_,_,_,rfl⟩
   rw [hP] at hmul hadd
   simp only [spO,stD] at hadd
   refine A10 (fs hj2 (fs hj3 (fs hgc (fs hCl (fs hc6 hc7))))) ?_;try with_reducible exact tt
   refine CallS.pu (hmul) (R0 ?_);try with_reducible exact tt
   refine CallS.g [3] (hadd) (R0 ?_);try with_reducible exact tt
   refine A10 ewj ?_;try with_reducible exact tt
   refine ⟨j+1,3,3,⟨by omega,by omega,by omega,by omega⟩,by omega,by omega,?_,?_⟩
   ·simp [swT,swH,sw,Ob.sw,V.ren,V.rens]
   ·simp [swT,swH,sw,Ob.sw,V.ren,V.rens]
  ·have h2:j=C.length:=by omega
   subst h2
   rw [List.take_length,←hon1]
   refine A00 ?_;try with_reducible exact tt
   refine A10 ewi ?_;try with_reducible exact tt
   refine ⟨i+1,3,3,⟨by omega,by omega,by omega,by omega⟩,by omega,by omega,?_,?_⟩
   ·simp [swT,swH,sw,Ob.sw,V.ren,V.rens]
   ·simp [swT,swH,sw,Ob.sw,V.ren,V.rens]
 ·have h2:i=A.length:=by omega
  subst h2
  refine A00 ?_;try with_reducible exact tt
end
section
open Go.RowKit
theorem o_xc (n:Nat):wD (n:Int) = .agg [natW n,.bool false]:=by
 unfold wD
 rw [Int.natAbs_natCast]
 congr 4
theorem o_xd (p q:Nat) (h0:0<q) (hp:size p≤900000) (hq:size q≤900000):Eqn Tryz.prog o_f8 [.d (.agg [natW p,.bool false]),.d (.agg [natW q,.bool false])] [] (.tup [.d (rD (mkRat p q)),.d (.int .i64 0)]) []:=by
 refine Eqn.pure o_fa Plain.ok ?_
 have ha:=o_lx q false
 have hp1:=o_lx p false
 have hn1:=o_ly p false
 have hn2:=o_ly q false
 have hz:=o_jm q
 have hq0:(q==0)=false:=by simp;omega
 rw [hq0] at hz
 have h4:=o_nu false p (p:Int) rfl
 have h5:=o_o1 (p:Int) q h0 (by rw [Int.natAbs_natCast];exact hp) hq
 rw [o_xc] at h4 h5
 refine cc (c':=?z188) ?_ ?_
 case refine_1=>cbv<;>exact rfl
 try simp only [rD] at h5 ⊢
 refine G0 ?_;try with_reducible exact tt
 refine CallS.pu (ha) (R0 ?_);try with_reducible exact tt
 refine CallS.pu (hz) (R0 ?_);try with_reducible exact tt
 refine AW.cond rfl (fun h=>?_) (fun h=>?_)
 ·simp at h
 refine G0 ?_;try with_reducible exact tt
 refine CallS.pu (hn1) (R0 ?_);try with_reducible exact tt
 refine CallS.pu (hn2) (R0 ?_);try with_reducible exact tt
 refine CallS.pu (hp1) (R0 ?_);try with_reducible exact tt
 refine CallS.pu (h4) (R0 ?_);try with_reducible exact tt
 refine CallS.pu (ha) (R0 ?_);try with_reducible exact tt
 refine CallS.pu (h5) (R0 ?_);try with_reducible exact tt
theorem o_xe (x y:Rat) (hx:RS x 100000) (hy:RS y 100000) (hx0:0≤x.num) (hy0:0<y.num):Eqn Tryz.prog o_dq [.d (rD x),.d (rD y)] [] (.tup [.d (rD (x/y)),.d (.int .i64 0)]) []:=by
 refine Eqn.pure o_ds Plain.ok ?_
 have x1:=hx.1;have x2:=hx.2;have y1:=hy.1;have y2:=hy.2
 obtain ⟨u,hu⟩:∃u:Nat,x.num=(u:Int):=⟨x.num.natAbs,by omega⟩
 obtain ⟨v,hv⟩:∃v:Nat,y.num=(v:Int):=⟨y.num.natAbs,by omega⟩
 have hu2:x.num.natAbs=u:=by omega
 have hv2:y.num.natAbs=v:=by omega
 have h1:=o_nx x.num y.den (by omega) (by rw [Int.natAbs_natCast];omega)
 have h2:=o_nx y.num x.den (by omega) (by rw [Int.natAbs_natCast];omega)
 have h3:=o_o3 x (by omega)
 have h4:=o_o3 y (by omega)
 rw [hu2] at x1;rw [hv2] at y1
 have s1:=o_nq u y.den
 have s2:=o_nq v x.den
 have h5:=o_xd (u*y.den) (v*x.den) (Nat.mul_pos (by omega) x.den_pos) (by omega) (by omega)
 have e:mkRat ((u*y.den:Nat):Int) (v*x.den)=x/y:=by
  have hd:=o_wi x.den_pos
  have hd2:=o_wi y.den_pos
  have hv0:(v:Rat)≠0:=o_wi (by omega)
  have ex:x=(u:Rat)/(x.den:Rat):=by
   have h:=Rat.mkRat_self x
   rw [Rat.mkRat_eq_div,hu] at h
   exact h.symm
  have ey:y=(v:Rat)/(y.den:Rat):=by
   have h:=Rat.mkRat_self y
   rw [Rat.mkRat_eq_div,hv] at h
   exact h.symm
  rw [Rat.mkRat_eq_div]
  have k1:(((u*y.den:Nat):Int):Rat)=(u:Rat)*(y.den:Rat):=by push_cast;rfl
  have k2:((v*x.den:Nat):Rat)=(v:Rat)*(x.den:Rat):=by simp
  rw [k1,k2]
  generalize hxd:(x.den:Rat)=xd at *
  generalize hyd:(y.den:Rat)=yd at *
  generalize (u:Rat)=uu at *
  generalize (v:Rat)=vv at *
  rw [ex,ey]
  grind
 rw [e] at h5
 rw [hu] at h1;rw [hv] at h2
 rw [←Int.natCast_mul,o_xc,o_xc,o_xc] at h1 h2
 rw [o_xc] at h3 h4
 refine cc (c':=?z189) ?_ ?_
 case refine_1=>cbv<;>exact rfl
 try simp only [rD,hu2,hv2,hu,hv] at h1 h2 h3 h4 h5 ⊢
 refine G0 ?_;try with_reducible exact tt
 refine CallS.pu (h4) (R0 ?_);try with_reducible exact tt
 refine CallS.pu (h1) (R0 ?_);try with_reducible exact tt
 refine CallS.pu (h3) (R0 ?_);try with_reducible exact tt
 refine CallS.pu (h2) (R0 ?_);try with_reducible exact tt
 refine CallS.pu (h5) (R0 ?_);try with_reducible exact tt
end
section
open Go.RowKit
theorem o_xf (e:Nat):mkRat 1 (2^e)*((2^e:Nat):Rat)=1:=by
 rw [Rat.mkRat_eq_div]
 have:=Rat.div_mul_cancel (a:=((1:Int):Rat)) (o_wi (Nat.two_pow_pos e))
 simpa using this
theorem o_xg {a:Nat} (ha:1≤a) (n:Nat):chM a n≠0:=by
 unfold chM
 have h:mkRat (a:Int) (a+1)≠0:=by
  rw [Rat.mkRat_eq_div]
  have h1:((a:Int):Rat)≠0:=o_wi (by omega:0<a)
  have h2:=o_wi (by omega:0<a+1)
  intro e
  have:=Rat.div_mul_cancel (a:=((a:Int):Rat)) h2
  rw [e] at this
  simp at this
  exact h1 (by simpa using this.symm)
 induction n with
 | zero=>simp
 | succ n ih =>
  rw [Rat.pow_succ]
  intro e
  rcases Rat.mul_eq_zero.1 e with e | e
  ·exact ih e
  ·exact h e
def ratC (k a r x:Nat):Rat:=if r≤x then chP k a x/chP k a r else 0
theorem o_xh {G:Nat} (hG:0<G) {q:Rat} (h:Gr G 1 q):0≤q∧q≤1:=by
 have hp:(0:Rat)<(G:Rat):=by exact_mod_cast hG
 obtain ⟨z,h1,h2⟩:=h
 refine ⟨?_,?_⟩
 ·apply Classical.byContradiction
  intro hn
  have hz:(0:Rat)≤(z:Rat):=by exact_mod_cast Nat.zero_le z
  have:=Rat.mul_lt_mul_of_pos_right (Rat.not_le.1 hn) hp
  grind
 ·apply Classical.byContradiction
  intro hn
  have hz:(z:Rat)≤(G:Rat):=by exact_mod_cast (by omega:z≤G)
  have:=Rat.mul_lt_mul_of_pos_right (Rat.not_le.1 hn) hp
  grind
end
section
open Go.RowKit
def RO (q:Rat):Ob:=⟨46,[.d (natW q.num.natAbs),.d (.bool (decide (q.num<0))),.d (natW (q.den-1))]⟩
def SO (s:St):Ob:=⟨29,[.d (.int .i64 s.1),.d (.int .i64 s.2.1),.d (.bool s.2.2)]⟩
theorem o_xi (s o:St):Eqn Tryz.prog o_dt [.d (.agg (stD s)),.p 0 0] [SO o] (.mp 1) [SO o,spO [((s.1,s.2.1,s.2.2 || o.2.2),1)]]:=by
 have hsu:=o_v1 (s.1,s.2.1,s.2.2 || o.2.2)
 refine Eqn.gen [0,2] o_dv (by simp) (by simp) (by rfl) (by decide) (by simp) (by simp [spO,SO]) ?_
 obtain ⟨s1,s2,s3⟩:=s
 obtain ⟨o1,o2,o3⟩:=o
 refine cc (c':=?z191) ?_ ?_
 case refine_1=>cbv<;>exact rfl
 try simp only [spO,stD,SO] at hsu ⊢
 generalize spD rcD _=L at *
 cases s3
 ·simp only [Bool.false_or] at hsu
  refine A00 ?_;try with_reducible exact tt
  refine CallS.nX (hsu) (R0 ?_);try with_reducible exact tt
 ·simp only [Bool.true_or] at hsu
  refine A00 ?_;try with_reducible exact tt
  refine CallS.nX (hsu) (R0 ?_);try with_reducible exact tt
end
section
open Go.RowKit
def clQ (top k a:Nat) (s:St):Nat→Sp
 | 0=>[(s,1)]
 | r+1=>timesQ (stepQ top (ratC k a r)) (clQ top k a s r)
def fullQ (f:Bool) (s:St):Sp:=[((s.1,s.2.1,s.2.2 || f),1)]
def mgQ (top k a:Nat) (s o:St):Sp:=timesQ (fullQ o.2.2) (clQ top k a s o.1)
end
section
open Go.RowKit
end
section
open Go.RowKit
theorem o_xj (f:Bool) (G:Nat) (s:St):NextOK (fullQ f) G s where
 uq:=by simp [fullQ,Uq]
 nz:=by simp [fullQ,nzQ]
 len:=by simp [fullQ]
 gr:=fun p hp=>by simp [fullQ] at hp;subst hp;exact Gr.one G
end
section
open Go.RowKit
def stsD (l:List St):List D:=l.flatMap stD
theorem o_xk (l:List St):(stsD l).length=l.length*3:=by
 unfold stsD
 induction l with
 | nil=>rfl
 | cons s l ih=>rw [List.flatMap_cons,List.length_append,ih];simp [stD];omega
theorem o_xl (l:List St) (i:Nat) (hi:i<l.length):((stsD l).drop (i*3)).take 3=[.int .i64 l[i].1,.int .i64 l[i].2.1,.bool l[i].2.2]:=o_ox (n:=3) (f:=stD) (fun _=>rfl) l i hi
theorem o_xm {k a w:Nat} (h:GoodR k a w) (l:List St) (hl:l.length≤1000000) (hw:∀s∈l,WellR k a w s.1 s.2.1 s.2.2):Eqn Tryz.prog o_dk [.d (.sl l.length (stsD l)),.fn (.func o_ah) [.p 0 0]] [PO k a w] (.d (.int .i64 (-1))) [PO k a w]:=by
 refine Eqn.gen [0] o_dm (by simp) (by simp) (by rfl) (by decide) (by simp) (by simp [PO]) ?_
 have hw1:∀i (hi:i<l.length),Eqn Tryz.prog o_ah [.d (.agg [.int .i64 l[i].1,.int .i64 l[i].2.1,.bool l[i].2.2]),.p 0 0] [PO k a w] (.d (.bool false)) [PO k a w]:=fun i hi=>o_wx h l[i] (hw _ (List.getElem_mem hi))
 have hlen:=o_xk l
 have hget:=o_xl l
 refine cc (c':=?z193) ?_ ?_
 case refine_1=>cbv<;>exact rfl
 try simp only [PO] at hw1 ⊢
 refine A00 ?_;try with_reducible exact tt
 refine AW.loopW (α:=Nat) (fun i=>setS (List.replicate 19 .junk) [(0,.d (.sl l.length (stsD l))),(1,.fn (.func o_ah) [.p 0 0]),(7,.d (.int .i64 l.length)),(8,.d (.int .i64 (i:Nat)))]) (fun i=>[some ⟨27,[.d (.int .i64 k),.d (.int .i64 a),.d (.int .i64 w)]⟩]) (fun i=>i≤l.length) (fun i=>l.length-i) 1 (fun _=>rfl) (by simp) 0 (Nat.zero_le _) ?_ ?_ ?_
 ·simp
 ·simp
 rintro i hi
 simp
 by_cases hi2:i<l.length
 ·have hi3:(i:Int)<l.length:=by omega
  have ew:IntKind.i64.wrap ((i:Int)+1)=((i+1:Nat):Int):=by rw [w64 (by omega) (by omega)];omega
  have h1:=hw1 i hi2
  have hg:=hget i hi2
  have hb6:i*3+3≤l.length*3:=by omega
  have hb7:i*3<l.length*3:=by omega
  refine A10 (fs hi2 (fs hi3 (fs hlen (fs hg (fs hb6 hb7))))) ?_;try with_reducible exact tt
  refine CallS.g [0] (h1) (R0 ?_);try with_reducible exact tt
  refine A10 ew ?_;try with_reducible exact tt
  exact ⟨i+1,by omega,by omega,Sub1.refl _⟩
 ·have h2:i=l.length:=by omega
  subst h2
  refine A00 ?_;try with_reducible exact tt
theorem o_xn {k a w:Nat} (h:GoodR k a w) (l:List St) (hl:l.length≤1000000) (hw:∀s∈l,WellR k a w s.1 s.2.1 s.2.2):Eqn Tryz.prog o_ae [.d (.sl l.length (stsD l)),.fn (.func o_ah) [.p 0 0]] [PO k a w] (.d (.bool false)) [PO k a w]:=by
 refine Eqn.gen [0] o_ag (by simp) (by simp) (by rfl) (by decide) (by simp) (by simp [PO]) ?_
 have hi:=o_xm h l hl hw
 refine cc (c':=?z194) ?_ ?_
 case refine_1=>cbv<;>exact rfl
 try simp only [PO] at hi ⊢
 refine A00 ?_;try with_reducible exact tt
 refine CallS.g [0] (hi) (R0 ?_);try with_reducible exact tt
theorem o_xo {k a w:Nat} (h:GoodR k a w) (l:List St) (hl:l.length≤1000000) (hw:∀s∈l,WellR k a w s.1 s.2.1 s.2.2):Eqn Tryz.prog o_7y [.d (parD k a w),.d (.sl l.length (stsD l))] [] (.d (.int .i64 0)) []:=by
 refine Eqn.pure o_80 Plain.ok ?_
 have hc:=o_qt h
 have hi:=o_xn h l hl hw
 refine cc (c':=?z195) ?_ ?_
 case refine_1=>cbv<;>exact rfl
 try simp only [PO,parD] at hc hi ⊢
 refine A00 ?_;try with_reducible exact tt
 refine CallS.pu (hc) (R0 ?_);try with_reducible exact tt
 refine A00 ?_;try with_reducible exact tt
 refine CallS.g [0] (hi) (R0 ?_);try with_reducible exact tt
 refine A00 ?_;try with_reducible exact tt
end
section
open Go.RowKit
def psum (L:Sp) (i:Nat):Rat:=(L.take i).foldl (fun x p=>x+p.2) 0
theorem o_xp (L:Sp) (i:Nat) (h:i<L.length):psum L (i+1)=psum L i+L[i].2:=by
 unfold psum;rw [List.take_add_one,List.getElem?_eq_getElem h,Option.toList,List.foldl_append];rfl
theorem o_xq {x:Rat} (h:0<x):cmpQ x 0=1:=by
 unfold cmpQ
 rw [if_neg (Rat.not_lt.2 (Rat.le_of_lt h)),if_pos h]
set_option maxHeartbeats 4000000 in
theorem o_xr {k a w:Nat} (h:GoodR k a w) (L:Sp) (hl:L.length≤1000000) (hw:∀p∈L,WellR k a w p.1.1 p.1.2.1 p.1.2.2) (hpos:∀p∈L,0<p.2) (hs:∀i (h:i+1<L.length),ltS (L[i]).1 (L[i+1]).1=true) (hrs:∀p∈L,RS p.2 100000) (hsum:∀i,i≤L.length→RS (psum L i) 100000) (h1:psum L L.length=1):Eqn Tryz.prog o_7g [.d (parD k a w),.d (.sl L.length (spD rcD L))] [] (.d (.bool true)) []:=by
 refine Eqn.pure o_7i Plain.ok ?_
 have ho0:=rof0
 have ho1:=rof1
 have hLl:=o_tn rcD (fun _=>rfl) L
 have hget:=o_wv L
 have hfin:=o_o7 1 1 (o_uy.le (by omega)) (o_uy.le (by omega))
 have hfc:cmpQ 1 1=0:=by unfold cmpQ;simp [Rat.lt_irrefl]
 rw [hfc] at hfin
 have hz:psum L 0=0:=rfl
 have hz2:RS (0:Rat) 100000:=⟨by decide,by decide⟩
 refine cc (c':=?z198) ?_ ?_
 case refine_1=>cbv<;>exact rfl
 try simp only [parD,o_uu] at ho0 ho1 hfin ⊢
 rw [←h1] at hfin ho1
 refine A00 ?_;try with_reducible exact tt
 refine CallS.pu (ho0) (R0 ?_);try with_reducible exact tt
 refine A00 ?_;try with_reducible exact tt
 refine AW.loopW (α:=Nat) (fun i=>setS (List.replicate 84 .junk) [(1,.d (.sl L.length (spD rcD L))),(2,.p 0 0),(5,.p 1 0),(11,.d (.sl L.length (spD rcD L))),(12,.d (.int .i64 L.length)),(13,.d (.int .i64 (i:Nat)))]) (fun i=>[some ⟨27,[.d (.int .i64 k),.d (.int .i64 a),.d (.int .i64 w)]⟩,some ⟨46,(rcD (psum L i)).map .d⟩]) (fun i=>i≤L.length) (fun i=>L.length-i) 2 (fun _=>rfl) (by simp) 0 (Nat.zero_le _) ?_ ?_ ?_
 ·simp
 ·simp [hz,rcD]
 rintro i hi
 simp
 by_cases hi2:i<L.length
 ·have hi3:(i:Int)<L.length:=by omega
  have ew:IntKind.i64.wrap ((i:Int)+1)=((i+1:Nat):Int):=by rw [w64 (by omega) (by omega)];omega
  obtain ⟨s1,s2,s3,q,N1,N2,N3,hp,hN,hg⟩:=hget i hi2
  have hwi:=hw _ (List.getElem_mem hi2)
  have hpi:=hpos _ (List.getElem_mem hi2)
  have hri:=hrs _ (List.getElem_mem hi2)
  have hnx:=o_xp L i hi2
  have hsi:=hsum i hi
  have hsd:=hs (i-1)
  rw [hp] at hwi hpi hri hnx
  simp only at hwi hpi hri hnx
  have hwl:=o_qv h s1 s2 s3
  rw [o_qu.2 hwi] at hwl
  have hcm:=o_o7 q 0 hri hz2
  rw [o_xq hpi] at hcm
  have had:=o_o5 (psum L i) q hsi hri
  rw [←hnx] at had
  have hb6:i*6+6≤L.length*6:=by omega
  have hb7:i*6<L.length*6:=by omega
  simp only [o_uu,parD,tsD] at hwl hcm had
  rw [hN] at hcm had
  have e3:(rcD (psum L i)).length=3:=rfl
  obtain ⟨A1,A2,A3,hA⟩:∃A1 A2 A3,rcD (psum L i)=[A1,A2,A3]:=⟨_,_,_,rfl⟩
  obtain ⟨B1,B2,B3,hB⟩:∃B1 B2 B3,rcD (psum L (i+1))=[B1,B2,B3]:=⟨_,_,_,rfl⟩
  rw [hA,hB] at had
  obtain ⟨O1,O2,O3,hO⟩:∃O1 O2 O3,rcD 0=[O1,O2,O3]:=⟨_,_,_,rfl⟩
  rw [hO] at hcm ho0
  rw [hA]
  refine A10 (fs hi2 (fs hi3 (fs hLl (fs hg (fs hb6 hb7))))) ?_;try with_reducible exact tt
  refine CallS.pu (hwl) (R0 ?_);try with_reducible exact tt
  refine CallS.pu (ho0) (R0 ?_);try with_reducible exact tt
  refine CallS.pu (hcm) (R0 ?_);try with_reducible exact tt
  refine A00 ?_;try with_reducible exact tt
  refine CallS.pu (had) (R0 ?_);try with_reducible exact tt
  by_cases h0:(i:Int)=0
  ·refine A10 (fs ew h0) ?_;try with_reducible exact tt
   have hi0:i=0:=by omega
   refine ⟨i+1,by omega,by omega,?_,?_⟩
   ·rw [hi0];exact Sub1.refl _
   ·rw [hB];exact Subs.refl _
  ·obtain ⟨j,rfl⟩:∃j,i=j+1:=⟨i-1,by omega⟩
   have h0':¬j+1=0:=by omega
   have ej:IntKind.i64.wrap (((j+1:Nat):Int)-1)=(j:Int):=by rw [w64 (by omega) (by omega)];omega
   have hj:j<L.length:=by omega
   have hj3:(j:Int)<L.length:=by omega
   obtain ⟨r1,r2,r3,q',M1,M2,M3,hpj,hM,hgj⟩:=hget j hj
   have hst:=hs j hi2
   rw [hp,hpj] at hst
   have hc6:j*6+6≤L.length*6:=by omega
   have hc7:j*6<L.length*6:=by omega
   refine AW.cond rfl (fun hh=>?_) (fun hh=>?_)
   ·simp at hh;omega
   refine AW.skip ?_
   have hg3:List.take 3 (List.drop (j*6) (spD rcD L))=[.int .i64 r1,.int .i64 r2,.bool r3]:=by
    have:=congrArg (List.take 3) hgj
    rw [List.take_take] at this
    simpa using this
   have hg3m:List.take 3 (List.drop (j*6) ((spD rcD L).map V.d))=[.d (.int .i64 r1),.d (.int .i64 r2),.d (.bool r3)]:=by
    rw [←List.map_drop,←List.map_take,hg3];rfl
   refine A10 (fs ej (fs hc6 (fs hc7 (fs hj (fs hj3 hLl))))) ?_;try with_reducible exact tt
   simp only [Int.toNat_natCast,hg3,hg3m]
   simp
   have hor:(r1<s1∧¬s1<r1∧¬r1=s1)∨(r1=s1∧((r2<s2∧¬s2<r2∧¬r2=s2)∨(r2=s2∧r3=false∧s3=true))):=by
    unfold ltS at hst
    simp only [Bool.or_eq_true,Bool.and_eq_true,decide_eq_true_eq,Bool.not_eq_true'] at hst
    rcases hst with g | ⟨g,g' | ⟨g',g3,g4⟩⟩
    ·exact .inl ⟨g,by omega,by omega⟩
    ·exact .inr ⟨g,.inl ⟨g',by omega,by omega⟩⟩
    ·exact .inr ⟨g,.inr ⟨g',g3,g4⟩⟩
   clear hst
   rcases hor with ⟨g1,g2,g3⟩ | ⟨rfl,⟨g1,g2,g3⟩ | ⟨rfl,rfl,rfl⟩⟩
   ·have g4:¬(s1:Int)<r1:=by omega
    have g5:¬(r1:Int)=s1:=by omega
    refine A10 (fs g2 (fs g3 (fs g4 (fs g5 ew)))) ?_;try with_reducible exact tt
    exact ⟨j+1+1,by omega,by omega,Sub1.refl _,by rw [hB];exact Subs.refl _⟩
   ·have g4:¬(s2:Int)<r2:=by omega
    have g5:¬(r2:Int)=s2:=by omega
    refine A10 (fs g2 (fs g3 (fs g4 (fs g5 ew)))) ?_;try with_reducible exact tt
    exact ⟨j+1+1,by omega,by omega,Sub1.refl _,by rw [hB];exact Subs.refl _⟩
   ·refine A10 ew ?_;try with_reducible exact tt
    exact ⟨j+1+1,by omega,by omega,Sub1.refl _,by rw [hB];exact Subs.refl _⟩
 ·have h2:i=L.length:=by omega
  subst h2
  obtain ⟨C1,C2,C3,hC⟩:∃C1 C2 C3,rcD (psum L L.length)=[C1,C2,C3]:=⟨_,_,_,rfl⟩
  rw [hC] at ho1 hfin ⊢
  refine A00 ?_;try with_reducible exact tt
  refine CallS.pu (ho1) (R0 ?_);try with_reducible exact tt
  refine CallS.pu (hfin) (R0 ?_);try with_reducible exact tt
end
section
open Go.RowKit
theorem o_xs {top k i:Nat} {l:Sp} (hu:Uq l) (h:kyQ (reach top k i) l):l.length≤top+2:=by
 have h1:(l.map (·.1)).length≤((top,0,true)::(List.range (top+1)).map fun j=>(j,0,false):List St).length:=by
  refine List.Nodup.length_le_of_subset hu fun t ht=>?_
  obtain ⟨p,hp,rfl⟩:=List.mem_map.1 ht
  rcases h p hp with e | ⟨e,e1,e2,e3⟩
  ·rw [e];simp
  ·refine List.mem_cons_of_mem _ (List.mem_map.2 ⟨p.1.1,List.mem_range.2 (by omega),?_⟩)
   rw [←e]
 simpa using h1
theorem o_xt {G top:Nat} {c:Nat→Rat} (h7:top≤15) (h0:∀k,k<top→0≤c k) (h1:∀k,k<top→c k≤1) (hc:∀x,x<top→Gr G 1 (c x)) {s:St} (hs:okQ top s):∀n,∀p∈ofQ (stepQ top c) s n,Gr (G^n) (80^n) p.2
 | 0=>fun p hp=>by
  simp [ofQ] at hp;subst hp
  exact Gr.one _
 | n+1=>by
  have ih:=o_xt h7 h0 h1 hc hs n
  have hl:=o_xs (o_ug _ s n) (o_x6 (c:=c) hs n)
  have hA:(atQ (ofQ (stepQ top c) s n)).length≤40:=Nat.le_trans (o_wt _) (by omega)
  have hm:∀p∈atQ (ofQ (stepQ top c) s n),p∈ofQ (stepQ top c) s n:=fun p hp=>(List.mem_filter.1 ((o_u5 _).mem_iff.1 hp)).1
  have:=o_wp (D:=G^n) (E:=G) (B:=80^n) (J:=2) (next:=stepQ top c) (A:=atQ (ofQ (stepQ top c) s n)) (fun p hp=>ih p (hm p hp)) (fun p hp=>⟨o_wu hc p.1 (o_uq h0 h1 hs n p (hm p hp)).1.1,Nat.le_trans (o_wt _) (o_ws _ _ _)⟩) _ (Nat.le_refl _)
  rw [o_wm] at this
  intro p hp
  rw [Nat.pow_succ]
  refine (this p hp).le ?_
  rw [Nat.pow_succ,Nat.mul_comm (80^n) 80]
  exact Nat.mul_le_mul_right _ (by omega)
theorem o_xu {G n:Nat} (hG:G≤2^63) (hn:n≤100):size (80*80^n*(G^n*G))≤100000∧size (80^n*G^n)≤100000:=by
 have h1:size G≤1:=o_lv (Nat.lt_of_le_of_lt hG (by decide))
 have h2:size 80≤1:=o_lv (by decide)
 have a1:=o_x8 80 h2 n
 have a2:=o_x8 G h1 n
 have a3:=o_nq (80*80^n) (G^n*G)
 have a4:=o_nq 80 (80^n)
 have a5:=o_nq (G^n) G
 have a6:=o_nq (80^n) (G^n)
 omega
set_option maxHeartbeats 4000000 in
theorem o_xv {k a w:Nat} (h:GoodS k a w) (w3:w≤4) (s:St) (hw:WellR k a w s.1 s.2.1 s.2.2) (hs:okQ (topC w) s) (n:Nat) (hn:n≤15):Eqn Tryz.prog o_74 [.d (parD k a w),.d (.agg (stD s)),.d (.int .i64 n)] [] (.tup [.d (.sl (atQ (dstQ k a w s n)).length (spD rcD (atQ (dstQ k a w s n)))),.d (.int .i64 0)]) []:=by
 refine Eqn.pure o_76 Plain.ok ?_
 have hk4:k≠4:=by have:=h.1;omega
 have w4:=h.2.2
 have hg:GoodR k a w:=.inr ⟨hk4,o_qn h⟩
 have h15:topC w≤15:=by have:=Nat.pow_le_pow_right (n:=2) (by omega) h.2.2;unfold topC;omega
 have hwr:=o_x0 hg s hw
 have hst:=o_x1 (a:=a) hk4 (show w≤10 by omega)
 have hsu:=o_v1 s
 obtain ⟨c0,c1⟩:=o_x9 h
 obtain ⟨G,hG,hG63,hc⟩:=o_wj h
 have h16:2^w≤16:=Nat.pow_le_pow_right (n:=2) (by omega) w3
 have h7:topC w≤15:=by unfold topC;omega
 have hti:∀i,i≤14→Eqn Tryz.prog o_87 [.mp 0,.fn (.func o_8a) [.p 1 0]] [spO (dstQ k a w s i),PO k a w] (.mp 2) [spO (dstQ k a w s i),PO k a w,spO (dstQ k a w s (i+1))]:=fun i hi=>by
  have hl:=o_xs (o_ug _ s i) (o_x6 (c:=chP k a) hs i)
  exact o_ww h (dstQ k a w s i) G (G^i) (80^i) (o_ug _ s i) (o_uq c0 c1 hs i) (o_x7 s i) (Nat.le_trans (List.length_filter_le _ _) (Nat.le_trans hl (by omega))) (Nat.le_trans hl (by omega)) (Nat.pow_pos hG) (Nat.pow_pos (by decide)) (o_xt h7 c0 c1 (fun x hx=>hc x (by omega)) hs i) hG hc (o_xu hG63 (by omega)).1
 have hat:Eqn Tryz.prog o_7v [.mp 0] [spO (dstQ k a w s n)] (.d (.sl (atQ (dstQ k a w s n)).length (spD rcD (atQ (dstQ k a w s n))))) [spO (dstQ k a w s n)]:=by
  have hl:=o_xs (o_ug _ s n) (o_x6 (c:=chP k a) hs n)
  exact o_wh _ (o_ug _ s n) (o_x7 s n) (Nat.le_trans (List.length_filter_le _ _) (Nat.le_trans hl (by omega))) (Nat.le_trans hl (by omega)) (fun p hp=>(o_xt h7 c0 c1 (fun x hx=>hc x (by omega)) hs n p hp).rs (Nat.pow_pos hG) (Nat.pow_pos (by decide)) (o_xu hG63 (by omega)).2)
 have hd0:dstQ k a w s 0=[(s,1)]:=rfl
 rw [←hd0] at hsu
 have e1:IntKind.i64.wrap ((n:Int)+1)=((n+1:Nat):Int):=by rw [w64 (by omega) (by omega)];omega
 obtain ⟨W,hW⟩:∃W,W=2^w:=⟨_,rfl⟩
 rw [←hW] at hst h16
 have hmul:(n+1)*W≤16*16:=Nat.mul_le_mul (by omega) h16
 have e2:IntKind.i64.wrap (((n+1:Nat):Int)*(W:Int))=(((n+1)*W:Nat):Int):=by rw [←Int.natCast_mul];exact w64 (by omega) (by omega)
 obtain ⟨M,hM⟩:∃M,M=(n+1)*W:=⟨_,rfl⟩
 rw [←hM] at e2 hmul
 obtain ⟨n1,hn1⟩:∃n1,n1=n+1:=⟨_,rfl⟩
 rw [←hn1] at e1 e2
 have g1:¬(n:Int)<0:=by omega
 have g2:¬(64:Int)<n:=by omega
 have g3:¬(512:Int)<M:=by omega
 have g4:¬512<M:=by omega
 have g5:¬64<n:=by omega
 generalize hA:atQ (dstQ k a w s n)=A at *
 refine cc (c':=?z199) ?_ ?_
 case refine_1=>cbv<;>exact rfl
 try simp only [stD,parD,spO,PO] at hwr hst hsu hti hat ⊢
 refine A00 ?_;try with_reducible exact tt
 refine CallS.pf 2 3 ⟨29,[.d (.int .i64 s.1),.d (.int .i64 s.2.1),.d (.bool s.2.2)]⟩ [.int .i64 s.1,.int .i64 s.2.1,.bool s.2.2] (hwr) (by first | rfl | (simp [g1,g2,g5];done)) (R1 (fs g1 (fs g2 g5)) ?_);try with_reducible exact tt
 refine A10 (fs g1 (fs g2 (fs g5 e1))) ?_;try with_reducible exact tt
 refine CallS.pu (hst) (R1 (fs e2 (fs g3 g4)) ?_);try with_reducible exact tt
 refine A10 (fs e2 (fs g3 g4)) ?_;try with_reducible exact tt
 refine CallS.nX (hsu) (R0 ?_);try with_reducible exact tt
 refine AW.loopG (α:=Nat) (fun i=>setS (List.replicate 43 .junk) [(3,.p 0 0),(9,.mp 3),(34,.d (.int .i64 n)),(35,.d (.int .i64 (i:Nat)))]) (fun i=>[some ⟨27,[.d (.int .i64 k),.d (.int .i64 a),.d (.int .i64 w)]⟩,none,none,some ⟨1000391,(spD rcD (dstQ k a w s i)).map .d⟩]) (fun i=>i≤n) (fun i=>n-i) 0 ?_ (Nat.zero_le _) ?_ ?_ ?_
 ·intro i hi;simp
 ·simp
 ·simp
 rintro i hi
 simp
 by_cases hi2:i<n
 ·have hi3:(i:Int)<n:=by omega
  have ew:IntKind.i64.wrap ((i:Int)+1)=((i+1:Nat):Int):=by rw [w64 (by omega) (by omega)];omega
  have ht:=hti i (by omega)
  refine A10 (fs hi2 hi3) ?_;try with_reducible exact tt
  refine CallS.g [3,0] (ht) (R1 ew ?_);try with_reducible exact tt
  refine A10 ew ?_;try with_reducible exact tt
  refine ⟨i+1,3,4,by omega,by omega,by omega,?_,?_⟩
  ·simp [swT,swH,sw,Ob.sw,V.ren,V.rens]
  ·simp [swT,swH,sw,Ob.sw,V.ren,V.rens]
 ·have h2:i=n:=by omega
  subst h2
  refine A00 ?_;try with_reducible exact tt
  refine CallS.g [3] (hat) (R0 ?_);try with_reducible exact tt
  done
end
section
open Go.RowKit
theorem o_xw {top:Nat} {t:St} (h:okQ top t):reach top 0 top t:=by
 obtain ⟨a,b,f⟩:=t
 obtain ⟨h1,h2,h3⟩:=h
 simp only at h1 h2 h3
 subst h2
 cases f with
 | false=>exact .inr ⟨rfl,Nat.zero_le _,by simp only;omega,h1⟩
 | true=>left;rw [h3 rfl]
theorem o_xx {top:Nat} {l:Sp} (hu:Uq l) (h:oklQ top l):l.length≤top+2:=o_xs hu (k:=0) (i:=top) fun p hp=>o_xw (h p hp).1
theorem o_xy {l:Sp} (h2:exQ (fun _=>1) l=1):nzQ l≠[]:=by
 intro h
 have h3:=o_tz (fun _=>(1:Rat)) l
 rw [show l.filter (fun p=>decide (p.2≠0))=nzQ l from rfl,h] at h3
 rw [h2] at h3
 exact absurd h3 (by decide)
end
section
open Go.RowKit
def chs:Nat→Nat→Nat
 | _,0=>1
 | 0,_+1=>0
 | n+1,k+1=>chs n k+chs n (k+1)
theorem o_xz (n:Nat):chs n 0=1:=by cases n<;>rfl
theorem o_y0:∀{n k:Nat},n<k→chs n k=0
 | 0,k+1,_=>rfl
 | n+1,k+1,h=>by
  show chs n k+chs n (k+1)=0
  rw [o_y0 (by omega),o_y0 (by omega)]
theorem o_y1:∀n k:Nat,chs n k≤2^n
 | n,0=>by rw [o_xz];exact Nat.two_pow_pos n
 | 0,k+1=>Nat.zero_le _
 | n+1,k+1=>by
  have h1:=o_y1 n k
  have h2:=o_y1 n (k+1)
  show chs n k+chs n (k+1)≤2^(n+1)
  rw [Nat.pow_succ];omega
theorem o_y2:∀n k:Nat,k≤n→chs n (k+1)*(k+1)=chs n k*(n-k)
 | 0,k,h=>by
  have:k=0:=by omega
  subst this;rfl
 | n+1,0,_=>by
  have h:=o_y2 n 0 (Nat.zero_le _)
  show (chs n 0+chs n 1)*1=chs (n+1) 0*(n+1)
  rw [o_xz] at h ⊢
  rw [o_xz]
  simp at h ⊢
  omega
 | n+1,k+1,h=>by
  have h1:=o_y2 n k (by omega)
  show (chs n (k+1)+chs n (k+2))*(k+2)=(chs n k+chs n (k+1))*(n+1-(k+1))
  rw [show n+1-(k+1)=n-k by omega,Nat.add_mul (chs n k),←h1]
  rcases Nat.lt_or_ge k n with h3 | h3
  ·have h2:=o_y2 n (k+1) (by omega)
   rw [Nat.add_mul,h2,←Nat.mul_add,←Nat.mul_add]
   congr 1;omega
  ·have e:k=n:=by omega
   subst e
   rw [o_y0 (show k<k+1 by omega),o_y0 (show k<k+2 by omega)];simp
def wayQ (K:Nat):Nat→Nat
 | 0=>1
 | k+1=>wayQ K k*(K-k)/(k+1)
theorem o_y3 (K:Nat):∀k,k≤K+1→wayQ K k=chs K k
 | 0,_=>(o_xz K).symm
 | k+1,h=>by
  show wayQ K k*(K-k)/(k+1)=_
  rw [o_y3 K k (by omega),←o_y2 K k (by omega),Nat.mul_div_cancel _ (by omega)]
def binP (K k:Nat):Rat:=((wayQ K k:Nat):Rat)*mkRat 1 (2^K)
def binI (s:St):Nat→Sp
 | 0=>[]
 | i+1=>addQ (binI s i) (i,s.2.1+1,s.2.2) (binP s.1 i)
def binQ (s:St):Sp:=binI s (s.1+1)
def bex:Nat→(Nat→Rat)→Rat
 | 0,g=>g 0
 | n+1,g=>mkRat 1 2*(bex n g+bex n fun k=>g (k+1))
def csum (n:Nat) (g:Nat→Rat):Nat→Rat
 | 0=>0
 | i+1=>csum n g i+((chs n i:Nat):Rat)*g i
theorem o_y4 (n:Nat) (g:Nat→Rat):∀i,csum (n+1) g (i+1)=g 0+csum n (fun k=>g (k+1)) i+(csum n g (i+1)-g 0)
 | 0=>by
  simp only [csum,o_xz]
  have:((1:Nat):Rat)=1:=rfl
  rw [this];grind
 | i+1=>by
  have ih:=o_y4 n g i
  rw [csum,ih]
  have e1:csum n g (i+1+1)=csum n g (i+1)+((chs n (i+1):Nat):Rat)*g (i+1):=rfl
  have e2:csum n (fun k=>g (k+1)) (i+1)=csum n (fun k=>g (k+1)) i+((chs n i:Nat):Rat)*g (i+1):=rfl
  have e3:((chs (n+1) (i+1):Nat):Rat)=((chs n i:Nat):Rat)+((chs n (i+1):Nat):Rat):=by
   rw [←Rat.natCast_add];rfl
  rw [e1,e2,e3];grind
theorem o_y5 (n:Nat):(mkRat 1 (2^n))*((2^n:Nat):Rat)=1:=by
 rw [Rat.mkRat_eq_div]
 exact Rat.div_mul_cancel (o_wi (Nat.two_pow_pos n))
theorem o_y6 (n:Nat):mkRat 1 (2^(n+1))=mkRat 1 2*mkRat 1 (2^n):=by
 rw [Rat.mkRat_mul_mkRat,Nat.pow_succ,Nat.mul_comm];rfl
theorem o_y7:∀(n:Nat) (g:Nat→Rat),csum n g (n+1)*mkRat 1 (2^n)=bex n g
 | 0,g=>by
  simp only [csum,bex,o_xz]
  have:((1:Nat):Rat)=1:=rfl
  rw [this,show mkRat 1 (2^0)=1 from rfl];grind
 | n+1,g=>by
  have h1:=o_y7 n g
  have h2:=o_y7 n fun k=>g (k+1)
  show _=mkRat 1 2*(bex n g+bex n fun k=>g (k+1))
  rw [←h1,←h2,o_y4,o_y6]
  have e1:csum n g (n+1+1)=csum n g (n+1):=by
   show csum n g (n+1)+((chs n (n+1):Nat):Rat)*g (n+1)=_
   rw [o_y0 (by omega)]
   have:((0:Nat):Rat)=0:=rfl
   rw [this];grind
  rw [e1];grind
theorem o_y8 {s:St}:∀i,∀p∈binI s i,p.1.1<i∧p.1.2=(s.2.1+1,s.2.2)
 | 0,p,hp=>by cases hp
 | i+1,p,hp=>by
  rcases o_uj hp with hp | rfl
  ·have:=o_y8 i p hp
   exact ⟨by omega,this.2⟩
  ·exact ⟨by simp,rfl⟩
theorem o_y9 (s:St):∀i,Uq (binI s i)
 | 0=>by simp [binI,Uq]
 | i+1=>o_tv (o_y9 s i)
theorem o_ya (s:St) (g:St→Rat):∀i,i≤s.1+1→exQ g (binI s i)=csum s.1 (fun k=>g (k,s.2.1+1,s.2.2)) i*mkRat 1 (2^s.1)
 | 0,_=>by simp only [binI,exQ,csum];grind
 | i+1,h=>by
  show exQ g (addQ (binI s i) _ _)=_
  rw [o_tw g _ _ _ (o_y9 s i),o_ya s g i (by omega)]
  unfold binP
  rw [o_y3 _ _ (by omega)]
  simp only [csum];grind
theorem o_yb (s:St) (g:St→Rat):exQ g (binQ s)=bex s.1 fun k=>g (k,s.2.1+1,s.2.2):=by
 unfold binQ
 rw [o_ya s g _ (Nat.le_refl _),o_y7]
theorem o_yc (c:Rat):∀n,bex n (fun _=>c)=c
 | 0=>rfl
 | n+1=>by
  show mkRat 1 2*(bex n (fun _=>c)+bex n fun _=>c)=c
  rw [o_yc c n]
  have h:mkRat 1 2*2=1:=by decide +kernel
  grind
end
section
open Go.RowKit
def Gi (e:Nat) (q:Rat):Prop:=∃z:Nat,q*((2^e:Nat):Rat)=(z:Rat)
theorem Gi.nn {e:Nat} {q:Rat} (h:Gi e q):0≤q:=by
 obtain ⟨z,h⟩:=h
 have hp:(0:Rat)<((2^e:Nat):Rat):=by exact_mod_cast Nat.two_pow_pos e
 apply Classical.byContradiction
 intro hn
 have hz:(0:Rat)≤(z:Rat):=by exact_mod_cast Nat.zero_le z
 have:=Rat.mul_lt_mul_of_pos_right (Rat.not_le.1 hn) hp
 grind
theorem Gi.zero (e:Nat):Gi e 0:=⟨0,by rw [Rat.zero_mul];rfl⟩
theorem Gi.one (e:Nat):Gi e 1:=⟨2^e,by rw [Rat.one_mul]⟩
theorem Gi.add {e:Nat} {x y:Rat} (hx:Gi e x) (hy:Gi e y):Gi e (x+y):=by
 obtain ⟨z,h1⟩:=hx
 obtain ⟨w,h2⟩:=hy
 refine ⟨z+w,?_⟩
 rw [Rat.natCast_add,←h1,←h2];grind
theorem Gi.mul {e f:Nat} {x y:Rat} (hx:Gi e x) (hy:Gi f y):Gi (e+f) (x*y):=by
 obtain ⟨z,h1⟩:=hx
 obtain ⟨w,h2⟩:=hy
 refine ⟨z*w,?_⟩
 rw [Rat.natCast_mul,←h1,←h2,Nat.pow_add,Rat.natCast_mul];grind
theorem Gi.up {e f:Nat} {x:Rat} (h:Gi e x) (hf:e≤f):Gi f x:=by
 have:=h.mul (Gi.one (f-e))
 rw [Rat.mul_one,show e+(f-e)=f by omega] at this
 exact this
theorem Gi.gr {e:Nat} {x:Rat} (h:Gi e x) (h1:x≤1):Gr (2^e) 1 x:=by
 obtain ⟨z,h⟩:=h
 refine ⟨z,h,?_⟩
 have hp:(0:Rat)≤((2^e:Nat):Rat):=by exact_mod_cast Nat.zero_le _
 have h2:=Rat.mul_le_mul_of_nonneg_right h1 hp
 rw [h,Rat.one_mul] at h2
 have:z≤2^e:=by exact_mod_cast h2
 omega
structure SpOK (e:Nat) (P:St→Prop) (l:Sp):Prop where
 uq:Uq l
 one:exQ (fun _=>1) l=1
 gi:∀p∈l,Gi e p.2
 ky:kyQ P l
theorem SpOK.nn {e:Nat} {P:St→Prop} {l:Sp} (h:SpOK e P l):∀p∈l,0≤p.2:=fun p hp=>(h.gi p hp).nn
theorem o_yd {g:St→Rat}:∀{l:Sp},(∀p∈l,0≤p.2)→(∀p∈l,0≤g p.1)→0≤exQ g l
 | [],_,_=>Rat.le_refl
 | p::l,h,hg=>by
  have h1:=o_yd (l:=l) (g:=g) (fun q hq=>h q (by simp [hq])) (fun q hq=>hg q (by simp [hq]))
  have h2:=Rat.mul_nonneg (h p (by simp)) (hg p (by simp))
  simp only [exQ];grind
theorem o_ye {l:Sp} (h0:∀p∈l,0≤p.2) (h1:exQ (fun _=>1) l≤1):∀p∈l,p.2≤1:=by
 induction l with
 | nil=>intro p hp;cases hp
 | cons q l ih =>
  have h2:0≤exQ (fun _=>(1:Rat)) l:=o_yd (fun p hp=>h0 p (by simp [hp])) fun _ _=>(by decide:(0:Rat)≤1)
  have h3:=h0 q (by simp)
  simp only [exQ] at h1
  intro p hp
  rcases List.mem_cons.1 hp with rfl | hp
  ·grind
  ·exact ih (fun p hp=>h0 p (by simp [hp])) (by grind) p hp
theorem SpOK.gr {e:Nat} {P:St→Prop} {l:Sp} (h:SpOK e P l):∀p∈l,Gr (2^e) 1 p.2:=fun p hp=>(h.gi p hp).gr (o_ye h.nn (by rw [h.one];exact Rat.le_refl) p hp)
theorem SpOK.nz {e:Nat} {P:St→Prop} {l:Sp} (h:SpOK e P l):nzQ l≠[]:=o_xy h.one
theorem SpOK.mono {e f:Nat} {P Q:St→Prop} {l:Sp} (h:SpOK e P l) (hf:e≤f) (hQ:∀s,P s→Q s):SpOK f Q l:=⟨h.uq,h.one,fun p hp=>(h.gi p hp).up hf,fun p hp=>hQ _ (h.ky p hp)⟩
theorem SpOK.sure {P:St→Prop} (s:St) (hs:P s) (e:Nat):SpOK e P [(s,1)] where
 uq:=by simp [Uq]
 one:=by simp only [exQ];grind
 gi:=fun p hp=>by simp at hp;subst hp;exact Gi.one e
 ky:=fun p hp=>by simp at hp;subst hp;exact hs
theorem o_yf {e:Nat} {l:Sp} (h:∀p∈l,Gi e p.2) (s:St):Gi e (getQ l s):=by
 induction l with
 | nil=>exact Gi.zero e
 | cons p l ih =>
  unfold getQ
  split
  ·exact h p (by simp)
  ·exact ih fun q hq=>h q (by simp [hq])
theorem o_yg {e:Nat} {l:Sp} (h:∀p∈l,Gi e p.2) {s:St} {q:Rat} (hq:Gi e q):∀p∈addQ l s q,Gi e p.2:=by
 intro p hp
 rcases o_uj hp with hp | rfl
 ·exact h p hp
 ·exact (o_yf h s).add hq
theorem o_yh {e f:Nat} {q:Rat} (hq:Gi e q):∀{l out:Sp},(∀p∈out,Gi (e+f) p.2)→(∀p∈l,Gi f p.2)→∀p∈innQ q out l,Gi (e+f) p.2
 | [],out,h,_=>h
 | b::l,out,h,hl=>o_yh hq (out:=addQ out b.1 (q*b.2)) (l:=l) (o_yg h (hq.mul (hl b (by simp)))) fun p hp=>hl p (by simp [hp])
theorem o_yi {e f:Nat} {next:St→Sp} {l:Sp} (h:∀p∈l,Gi e p.2) (hn:∀p∈l,∀q∈next p.1,Gi f q.2):∀p∈timesQ next l,Gi (e+f) p.2:=by
 have key:∀(k out:Sp),(∀p∈out,Gi (e+f) p.2)→(∀p∈k,Gi e p.2∧∀q∈next p.1,Gi f q.2)→∀p∈k.foldl (fun out a=>innQ a.2 out (atQ (next a.1))) out,Gi (e+f) p.2:=by
  intro k
  induction k with
  | nil=>intro out h _;exact h
  | cons a k ih =>
   intro out ho hk
   obtain ⟨h1,h2⟩:=hk a (by simp)
   exact ih _ (o_yh h1 ho fun p hp=>h2 p (List.mem_filter.1 ((o_u5 _).mem_iff.1 hp)).1) fun p hp=>hk p (by simp [hp])
 refine key _ _ (fun p hp=>by cases hp) fun p hp=>?_
 have hp':=(List.mem_filter.1 ((o_u5 l).mem_iff.1 hp)).1
 exact ⟨h p hp',hn p hp'⟩
theorem o_yj {g h:St→Rat}:∀{l:Sp},(∀p∈l,g p.1=h p.1)→exQ g l=exQ h l
 | [],_=>rfl
 | p::l,hl=>by
  simp only [exQ]
  rw [hl p (by simp),o_yj (l:=l) fun q hq=>hl q (by simp [hq])]
theorem SpOK.times {e f:Nat} {P Q:St→Prop} {next:St→Sp} {l:Sp} (h:SpOK e P l) (hn:∀s,P s→SpOK f Q (next s)):SpOK (e+f) Q (timesQ next l) where
 uq:=o_ue _ _
 one:=by
  rw [o_uf,o_yj (h:=fun _=>1) fun p hp=>(hn _ (h.ky p hp)).one]
  exact h.one
 gi:=o_yi h.gi fun p hp=>(hn _ (h.ky p hp)).gi
 ky:=by
  have key:∀(k out:Sp),kyQ Q out→(∀p∈k,P p.1)→kyQ Q (k.foldl (fun out a=>innQ a.2 out (atQ (next a.1))) out):=by
   intro k
   induction k with
   | nil=>intro out h _;exact h
   | cons a k ih =>
    intro out ho hk
    exact ih _ (o_x2 ho (o_x3 (hn _ (hk a (by simp))).ky)) fun p hp=>hk p (by simp [hp])
  exact key _ _ (fun p hp=>by cases hp) fun p hp=>h.ky p (List.mem_filter.1 ((o_u5 l).mem_iff.1 hp)).1
theorem o_yk (n:Nat):Gi n (mkRat 1 (2^n)):=⟨1,o_y5 n⟩
theorem o_yl (n:Nat):Gi n (1-mkRat 1 (2^n)):=by
 refine ⟨2^n-1,?_⟩
 have h:=o_y5 n
 have h1:=Nat.two_pow_pos n
 have e:((2^n:Nat):Rat)=((2^n-1:Nat):Rat)+((1:Nat):Rat):=by rw [←Rat.natCast_add,Nat.sub_add_cancel h1]
 have e1:((1:Nat):Rat)=1:=rfl
 rw [e1] at e
 grind
theorem SpOK.eit {e:Nat} {P:St→Prop} {x:Rat} {s o:St} (hx:Gi e x) (hy:Gi e (1-x)) (hs:P s) (ho:P o):SpOK e P (eitQ x s o) where
 uq:=(o_uh (fun _=>0) x s o).1
 one:=by rw [(o_uh (fun _=>1) x s o).2];grind
 gi:=o_yg (o_yg (fun p hp=>by cases hp) hx) hy
 ky:=fun p hp=>by
  unfold eitQ at hp
  rcases o_uj hp with hp | rfl
  ·rcases o_uj hp with hp | rfl
   ·cases hp
   ·exact hs
  ·exact ho
theorem SpOK.bin (s:St):SpOK s.1 (fun t=>t.1≤s.1∧t.2=(s.2.1+1,s.2.2)) (binQ s) where
 uq:=o_y9 s _
 one:=by rw [o_yb,o_yc]
 gi:=by
  have key:∀i,i≤s.1+1→∀p∈binI s i,Gi s.1 p.2:=by
   intro i
   induction i with
   | zero=>intro _ p hp;cases hp
   | succ i ih =>
    intro hi
    refine o_yg (ih (by omega)) ?_
    have h:=(o_yk s.1)
    obtain ⟨z,hz⟩:=h
    refine ⟨wayQ s.1 i*z,?_⟩
    unfold binP
    rw [Rat.natCast_mul,←hz];grind
  exact key _ (Nat.le_refl _)
 ky:=fun p hp=>by
  have:=o_y8 _ p hp
  exact ⟨by omega,this.2⟩
def downF (A:Nat):Nat→St→Sp
 | 0,s=>if s.1≤A then [(s,1)] else [((A,s.2.1,true),1)]
 | f+1,s=>if s.1≤A then [(s,1)] else timesQ (downF A f) (binQ s)
def downA (A B:Nat) (s:St):Sp:=downF A (B-s.2.1) s
theorem o_ym {next next':St→Sp} {l:Sp} (h:∀p∈l,next p.1=next' p.1):timesQ next l=timesQ next' l:=by
 have key:∀(k out:Sp),(∀p∈k,next p.1=next' p.1)→k.foldl (fun out a=>innQ a.2 out (atQ (next a.1))) out=k.foldl (fun out a=>innQ a.2 out (atQ (next' a.1))) out:=by
  intro k
  induction k with
  | nil=>intro out _;rfl
  | cons a k ih =>
   intro out hk
   rw [List.foldl_cons,List.foldl_cons,hk a (by simp)]
   exact ih _ fun p hp=>hk p (by simp [hp])
 exact key _ _ fun p hp=>h p (List.mem_filter.1 ((o_u5 l).mem_iff.1 hp)).1
theorem o_yn {A B:Nat} {s:St} (h:s.1≤A):downA A B s=[(s,1)]:=by
 unfold downA
 generalize B-s.2.1=f
 cases f<;>simp [downF,h]
theorem o_yo {A B:Nat} {s:St} (h:¬s.1≤A) (hT:s.2.1=B):downA A B s=[((A,s.2.1,true),1)]:=by
 unfold downA
 rw [show B-s.2.1=0 by omega]
 simp [downF,h]
theorem o_yp {A B:Nat} {s:St} (h:¬s.1≤A) (hT:s.2.1<B):downA A B s=timesQ (downA A B) (binQ s):=by
 have e:downA A B s=timesQ (downF A (B-s.2.1-1)) (binQ s):=by
  unfold downA
  obtain ⟨f,hf⟩:∃f,B-s.2.1=f+1:=⟨B-s.2.1-1,by omega⟩
  rw [hf]
  simp [downF,h]
 rw [e]
 refine o_ym fun p hp=>?_
 have:=(o_y8 _ p hp).2
 unfold downA
 rw [this]
 congr 1
def okT (A B:Nat) (s:St):Prop:=s.1≤A∧s.2.1≤B∧(s.2.2=true→s.2.1=B)
theorem SpOK.down {A B X:Nat}:∀(f:Nat) (s:St),s.2.1+f=B→s.1≤X→(s.2.2=true→s.2.1=B)→SpOK (X*f) (okT A B) (downA A B s)
 | 0,s,hT,hX,hf=>by
  by_cases h:s.1≤A
  ·rw [o_yn h];exact SpOK.sure s ⟨h,by omega,hf⟩ _
  ·rw [o_yo h (by omega)];exact SpOK.sure _ ⟨Nat.le_refl _,by simp only;omega,fun _=>by simp only;omega⟩ _
 | f+1,s,hT,hX,hf=>by
  by_cases h:s.1≤A
  ·rw [o_yn h];exact SpOK.sure s ⟨h,by omega,hf⟩ _
  ·rw [o_yp h (by omega)]
   have hb:=(SpOK.bin s).mono hX fun _ h=>h
   have:=hb.times (f:=X*f) (Q:=okT A B) (next:=downA A B) fun t ht=>SpOK.down f t (by rw [ht.2];simp only;omega) (by omega) (fun h2=>by
    rw [ht.2] at h2
    have:=hf h2
    omega)
   refine this.mono ?_ fun _ h=>h
   rw [Nat.mul_add];omega
def stepT (A B:Nat) (s:St):Sp:=timesQ (downA A B) (eitQ (mkRat 1 (2^s.2.1)) (s.1+1,s.2) s)
theorem SpOK.stepT {A B:Nat} {s:St} (h:okT A B s):SpOK (B+(A+1)*B) (okT A B) (stepT A B s):=by
 obtain ⟨h1,h2,h3⟩:=h
 have he:SpOK B (fun t=>t.1≤A+1∧t.2=s.2) (eitQ (mkRat 1 (2^s.2.1)) (s.1+1,s.2) s):=SpOK.eit ((o_yk _).up h2) ((o_yl _).up h2) ⟨by simp only;omega,rfl⟩ ⟨by omega,rfl⟩
 refine he.times fun t ht=>?_
 refine (SpOK.down (A:=A) (X:=A+1) (B-s.2.1) t (by rw [ht.2];omega) ht.1 (by rw [ht.2];exact h3)).mono (Nat.mul_le_mul_left _ (by omega)) fun _ h=>h
theorem SpOK.of {e:Nat} {P:St→Prop} {next:St→Sp} (hn:∀s,P s→SpOK e P (next s)) {s:St} (hs:P s):∀n,SpOK (n*e) P (ofQ next s n)
 | 0=>SpOK.sure s hs _
 | n+1=>by
  have:=(SpOK.of hn hs n).times hn
  rw [Nat.add_mul,Nat.one_mul]
  exact this
def thinQ (s:St) (n:Nat):Sp:=ofQ binQ s n
theorem SpOK.thin (s:St):∀n,SpOK (n*s.1) (fun t=>t.1≤s.1∧t.2=(s.2.1+n,s.2.2)) (thinQ s n)
 | 0=>SpOK.sure s ⟨Nat.le_refl _,rfl⟩ _
 | n+1=>by
  have:=(SpOK.thin s n).times (f:=s.1) (Q:=fun t=>t.1≤s.1∧t.2=(s.2.1+(n+1),s.2.2)) (next:=binQ) fun t ht=>(SpOK.bin t).mono ht.1 fun u hu=>⟨by omega,by rw [hu.2,ht.2];simp only [Nat.add_assoc]⟩
  rw [Nat.add_mul,Nat.one_mul]
  exact this
def joI (f:Bool) (x:St×Rat) (B:Sp) (out:Sp) (j:Nat):Sp:=(B.take j).foldl (fun out y=>addQ out (x.1.1+y.1.1,x.1.2.1,f) (x.2*y.2)) out
def joO (f:Bool) (A B:Sp) (i:Nat):Sp:=(A.take i).foldl (fun out x=>joI f x B out B.length) []
def joQ (f:Bool) (A B:Sp):Sp:=joO f A B A.length
theorem o_yq (f:Bool) (x:St×Rat) (B out:Sp) (j:Nat) (h:j<B.length):joI f x B out (j+1)=addQ (joI f x B out j) (x.1.1+B[j].1.1,x.1.2.1,f) (x.2*B[j].2):=by
 unfold joI;rw [List.take_add_one,List.getElem?_eq_getElem h,Option.toList,List.foldl_append];rfl
theorem o_yr (f:Bool) (A B:Sp) (i:Nat) (h:i<A.length):joO f A B (i+1)=joI f A[i] B (joO f A B i) B.length:=by
 unfold joO;rw [List.take_add_one,List.getElem?_eq_getElem h,Option.toList,List.foldl_append];rfl
def mgT (A B:Nat) (s o:St):Sp:=timesQ (downA A B) (joQ (s.2.2 || o.2.2) (atQ (thinQ s (o.2.1-s.2.1))) (atQ (thinQ o (s.2.1-o.2.1))))
theorem o_ys (g:St→Rat) (f:Bool) (x:St×Rat) (B:Sp):∀(j:Nat) (out:Sp),j≤B.length→Uq out→Uq (joI f x B out j)∧exQ g (joI f x B out j)=exQ g out+x.2*exQ (fun t=>g (x.1.1+t.1,x.1.2.1,f)) (B.take j)
 | 0,out,_,h=>⟨h,by simp only [joI,List.take_zero,List.foldl_nil,exQ];grind⟩
 | j+1,out,hj,h=>by
  obtain ⟨h1,h2⟩:=o_ys g f x B j out (by omega) h
  rw [o_yq f x B out j (by omega)]
  refine ⟨o_tv h1,?_⟩
  rw [o_tw g _ _ _ h1,h2,List.take_add_one,List.getElem?_eq_getElem (by omega:j<B.length),Option.toList,o_ty]
  simp only [exQ];grind
theorem o_yt (g:St→Rat) (f:Bool) (A B:Sp):∀i,i≤A.length→Uq (joO f A B i)∧exQ g (joO f A B i)=exQ (fun s=>exQ (fun t=>g (s.1+t.1,s.2.1,f)) B) (A.take i)
 | 0,_=>by simp [joO,Uq,exQ]
 | i+1,hi=>by
  obtain ⟨h1,h2⟩:=o_yt g f A B i (by omega)
  rw [o_yr f A B i hi]
  obtain ⟨h3,h4⟩:=o_ys g f A[i] B B.length (joO f A B i) (Nat.le_refl _) h1
  refine ⟨h3,?_⟩
  rw [h4,h2,List.take_length,List.take_add_one,List.getElem?_eq_getElem (by omega:i<A.length),Option.toList,o_ty]
  simp only [exQ];grind
theorem o_yu (g:St→Rat) (f:Bool) (A B:Sp):exQ g (joQ f A B)=exQ (fun s=>exQ (fun t=>g (s.1+t.1,s.2.1,f)) B) A:=by
 have:=(o_yt g f A B A.length (Nat.le_refl _)).2
 rw [List.take_length] at this
 exact this
theorem SpOK.at {e:Nat} {P:St→Prop} {l:Sp} (h:SpOK e P l):SpOK e P (atQ l) where
 uq:=o_u8 h.uq
 one:=by rw [o_u6];exact h.one
 gi:=fun p hp=>h.gi p (List.mem_filter.1 ((o_u5 l).mem_iff.1 hp)).1
 ky:=o_x3 h.ky
theorem SpOK.join {e f:Nat} {P Q R:St→Prop} {A B:Sp} {b:Bool} (hA:SpOK e P A) (hB:SpOK f Q B) (hR:∀s t,P s→Q t→R (s.1+t.1,s.2.1,b)):SpOK (e+f) R (joQ b A B) where
 uq:=(o_yt (fun _=>0) b A B A.length (Nat.le_refl _)).1
 one:=by
  rw [o_yu,o_yj (h:=fun _=>1) fun p _=>hB.one]
  exact hA.one
 gi:=by
  have h1:∀(x:St×Rat),x∈A→∀(j:Nat) (out:Sp),j≤B.length→(∀p∈out,Gi (e+f) p.2)→∀p∈joI b x B out j,Gi (e+f) p.2:=by
   intro x hx j
   induction j with
   | zero=>intro out _ h p hp;exact h p (by simpa [joI] using hp)
   | succ j ih =>
    intro out hj h
    rw [o_yq b x B out j (by omega)]
    exact o_yg (ih out (by omega) h) ((hA.gi x hx).mul (hB.gi _ (List.getElem_mem _)))
  have h2:∀i,i≤A.length→∀p∈joO b A B i,Gi (e+f) p.2:=by
   intro i
   induction i with
   | zero=>intro _ p hp;simp [joO] at hp
   | succ i ih =>
    intro hi
    rw [o_yr b A B i hi]
    exact h1 _ (List.getElem_mem _) _ _ (Nat.le_refl _) (ih (by omega))
  exact h2 _ (Nat.le_refl _)
 ky:=by
  have h1:∀(x:St×Rat),x∈A→∀(j:Nat) (out:Sp),j≤B.length→kyQ R out→kyQ R (joI b x B out j):=by
   intro x hx j
   induction j with
   | zero=>intro out _ h p hp;exact h p (by simpa [joI] using hp)
   | succ j ih =>
    intro out hj h
    rw [o_yq b x B out j (by omega)]
    intro p hp
    rcases o_uj hp with hp | rfl
    ·exact ih out (by omega) h p hp
    ·exact hR _ _ (hA.ky x hx) (hB.ky _ (List.getElem_mem _))
  have h2:∀i,i≤A.length→kyQ R (joO b A B i):=by
   intro i
   induction i with
   | zero=>intro _ p hp;simp [joO] at hp
   | succ i ih =>
    intro hi
    rw [o_yr b A B i hi]
    exact h1 _ (List.getElem_mem _) _ _ (Nat.le_refl _) (ih (by omega))
  exact h2 _ (Nat.le_refl _)
theorem SpOK.mgT {A B:Nat} {s o:St} (hs:okT A B s) (ho:okT A B o):SpOK (B*A+B*A+(A+A)*B) (okT A B) (mgT A B s o):=by
 obtain ⟨s1,s2,s3⟩:=hs
 obtain ⟨o1,o2,o3⟩:=ho
 have ha:=(SpOK.thin s (o.2.1-s.2.1)).at.mono (f:=B*A) (Nat.mul_le_mul (by omega) s1) fun _ h=>h
 have hb:=(SpOK.thin o (s.2.1-o.2.1)).at.mono (f:=B*A) (Nat.mul_le_mul (by omega) o1) fun _ h=>h
 have hj:=ha.join (R:=fun t=>t.1≤A+A∧t.2=(max s.2.1 o.2.1,s.2.2 || o.2.2)) (b:=s.2.2 || o.2.2) hb fun t u ht hu=>⟨by simp only;omega,by simp only [ht.2,Prod.mk.injEq,and_true];omega⟩
 refine hj.times fun t ht=>?_
 refine (SpOK.down (A:=A) (X:=A+A) (B-max s.2.1 o.2.1) t (by rw [ht.2];simp only;omega) ht.1 (by
  rw [ht.2]
  simp only [Bool.or_eq_true]
  rintro (h | h)
  ·have:=s3 h;omega
  ·have:=o3 h;omega)).mono (Nat.mul_le_mul_left _ (by omega)) fun _ h=>h
end
section
open Go.RowKit
end
section
open Go.RowKit
theorem o_yv {l K N:Sp} (hu:Uq l) (hN:nzQ l=N) (hp:K.Perm N) (hs:K.Pairwise fun a b=>ltS a.1 b.1=true):atQ l=K:=(o_ua hu (hN▸hp) hs).symm
def hf2:Rat:=mkRat 1 2
theorem dst2:atQ (dstQ 1 1 2 (0,0,false) 2)=[((1,0,false),hf2),((2,0,false),hf2)]:=by
 have c0:stepQ (topC 2) (chP 1 1) (0,0,false)=[((1,0,false),1),((0,0,false),0)]:=by kernel_rfl
 have c1:stepQ (topC 2) (chP 1 1) (1,0,false)=[((2,0,false),hf2),((1,0,false),hf2)]:=by kernel_rfl
 have a0:atQ [(((0,0,false):St),(1:Rat))]=[((0,0,false),1)]:=o_yv (N:=[((0,0,false),1)]) (by unfold Uq;decide) (by kernel_rfl) (List.Perm.refl _) (by decide)
 have a1:atQ [(((1,0,false):St),(1:Rat)),((0,0,false),0)]=[((1,0,false),1)]:=o_yv (N:=[((1,0,false),1)]) (by unfold Uq;decide) (by kernel_rfl) (List.Perm.refl _) (by decide)
 have a2:atQ [(((1,0,false):St),(1:Rat))]=[((1,0,false),1)]:=o_yv (N:=[((1,0,false),1)]) (by unfold Uq;decide) (by kernel_rfl) (List.Perm.refl _) (by decide)
 have a3:atQ [(((2,0,false):St),hf2),((1,0,false),hf2)]=[((1,0,false),hf2),((2,0,false),hf2)]:=o_yv (N:=[((2,0,false),hf2),((1,0,false),hf2)]) (by unfold Uq;decide) (by kernel_rfl) (List.Perm.swap _ _ _) (by decide)
 have a4:atQ [(((1,0,false):St),hf2),((2,0,false),hf2)]=[((1,0,false),hf2),((2,0,false),hf2)]:=o_yv (N:=[((1,0,false),hf2),((2,0,false),hf2)]) (by unfold Uq;decide) (by kernel_rfl) (List.Perm.refl _) (by decide)
 have d1:dstQ 1 1 2 (0,0,false) 1=[((1,0,false),1)]:=by
  show timesQ _ [((0,0,false),1)]=_
  unfold timesQ
  rw [a0]
  simp only [List.foldl_cons,List.foldl_nil]
  rw [c0,a1]
  kernel_rfl
 have d2:dstQ 1 1 2 (0,0,false) 2=[((1,0,false),hf2),((2,0,false),hf2)]:=by
  show timesQ _ (dstQ 1 1 2 (0,0,false) 1)=_
  rw [d1]
  unfold timesQ
  rw [a2]
  simp only [List.foldl_cons,List.foldl_nil]
  rw [c1,a3]
  kernel_rfl
 rw [d2,a4]
end
section
open Go.RowKit
theorem o_yw (n:Nat) (hn:n≤8192):Eqn Tryz.prog o_9p [.d (.int .i64 n)] [] (.d (rD (mkRat 1 (2^n)))) []:=by
 refine Eqn.pure o_9r Plain.ok ?_
 have hh:=o_mc n (by omega)
 rw [show D.agg [natW 1,.bool false,natW (2^n-1)]=rD (mkRat 1 (2^n)) from o_v2 n] at hh
 obtain ⟨A1,A2,A3,hA⟩:∃A1 A2 A3,rD (mkRat 1 (2^n)) = .agg [A1,A2,A3]:=⟨_,_,_,rfl⟩
 rw [hA] at hh ⊢
 refine cc (c':=?z201) ?_ ?_
 case refine_1=>cbv<;>exact rfl
 refine A00 ?_;try with_reducible exact tt
 refine CallS.pu (hh) (R0 ?_);try with_reducible exact tt
theorem o_yx (n:Nat):size (2^n)≤n+1:=o_x8 2 (o_lv (by decide)) n
theorem Gi.rs {e:Nat} {x:Rat} (h:Gi e x) (h1:x≤1) (he:e≤90000):RS x 90001:=(h.gr h1).rs (Nat.two_pow_pos e) (Nat.le_refl _) (by rw [Nat.one_mul];have:=o_yx e;omega)
theorem SpOK.rs {e:Nat} {P:St→Prop} {l:Sp} (h:SpOK e P l) (he:e≤90000):∀p∈l,RS p.2 100000:=fun p hp=>((h.gi p hp).rs (o_ye h.nn (by rw [h.one];exact Rat.le_refl) p hp) he).le (by omega)
theorem o_yy {s:St}:∀{l:Sp},(∀p∈l,p.1≠s)→getQ l s=0
 | [],_=>rfl
 | p::l,h=>by
  unfold getQ
  rw [if_neg fun e=>h p (by simp) e.symm]
  exact o_yy fun q hq=>h q (by simp [hq])
theorem o_yz {K k:Nat} (hK:K≤1000) (hk:k≤K):RS (binP K k) 100000:=by
 have h1:Gi K (binP K k):=by
  obtain ⟨z,hz⟩:=o_yk K
  refine ⟨wayQ K k*z,?_⟩
  unfold binP
  rw [Rat.natCast_mul,←hz];grind
 have h2:binP K k≤1:=by
  unfold binP
  rw [o_y3 K k (by omega)]
  have hp:=o_y5 K
  have h0:(0:Rat)≤mkRat 1 (2^K):=(o_yk K).nn
  have h3:((chs K k:Nat):Rat)≤((2^K:Nat):Rat):=by exact_mod_cast o_y1 K k
  have:=Rat.mul_le_mul_of_nonneg_right h3 h0
  grind
 exact (h1.rs h2 (by omega)).le (by omega)
set_option maxHeartbeats 4000000 in
theorem o_z0 (s:St) (hK:s.1≤1000) (hT:s.2.1≤1000):Eqn Tryz.prog o_cq [.d (.agg (stD s))] [] (.mp 0) [spO (binQ s)]:=by
 obtain ⟨K,T,f⟩:=s
 simp only at hK hT
 refine Eqn.gen [1] o_cs (by simp) (by simp) (by rfl) (by decide) (by simp) (by simp [spO]) ?_
 have hof:∀y:Nat,y<2^60→Eqn Tryz.prog o_c5 [.d (.sl 1 [.int .u64 y])] [] (.d (.agg [natW y])) []:=fun y hy=>by
  have:=o_jl [y] (o_kh (by omega)) (by simp)
  simpa [W,wval] using this
 have ho1:=hof 1 (by omega)
 have hh:=o_yw K (by omega)
 have eT:IntKind.i64.wrap ((T:Int)+1)=((T+1:Nat):Int):=by rw [w64 (by omega) (by omega)];omega
 refine cc (c':=?z202) ?_ ?_
 case refine_1=>cbv<;>exact rfl
 try simp only [stD,spO,o_uu] at hh ⊢
 refine A00 ?_;try with_reducible exact tt
 refine CallS.pf 2 1 ⟨105,_⟩ [.int .u64 (1:Nat)] (ho1) (by first | rfl | (simp;done)) (R0 ?_);try with_reducible exact tt
 refine A00 ?_;try with_reducible exact tt
 refine AW.loopW (α:=Nat) (fun k=>setS (List.replicate 50 .junk) [(1,.p 0 0),(3,.mp 1),(4,.p 3 0),(5,.d (.int .i64 (k:Nat)))]) (fun k=>[some ⟨29,[.d (.int .i64 K),.d (.int .i64 T),.d (.bool f)]⟩,some ⟨1000391,(spD rcD (binI (K,T,f) k)).map .d⟩,none,some ⟨42,[.d (natW (wayQ K k))]⟩]) (fun k=>k≤K+1) (fun k=>K+1-k) 4 (fun _=>rfl) (Nat.zero_le _) 0 (Nat.zero_le _) ?_ ?_ ?_
 ·simp
 ·simp [binI,wayQ,spD]
 rintro k hk
 simp
 by_cases hk2:k≤K
 ·have hk3:(k:Int)≤K:=by omega
  have ew:IntKind.i64.wrap ((k:Int)+1)=((k+1:Nat):Int):=by rw [w64 (by omega) (by omega)];omega
  have es:IntKind.i64.wrap ((K:Int)-k)=((K-k:Nat):Int):=by rw [w64 (by omega) (by omega)];omega
  have eu:IntKind.u64.wrap ((K-k:Nat):Int)=((K-k:Nat):Int):=wu64 (by omega) (by omega)
  have eu2:IntKind.u64.wrap ((k+1:Nat):Int)=((k+1:Nat):Int):=wu64 (by omega) (by omega)
  have hw:size (wayQ K k)≤1001:=by
   rw [o_y3 K k (by omega)]
   have:=o_k5 (o_y1 K k)
   have:=o_yx K
   omega
  have hrn:=o_o9 (wayQ K k)
  have s1:RS ((wayQ K k:Nat):Rat) 100000:=by
   have hg:Gr 1 (2^K) ((wayQ K k:Nat):Rat):=⟨wayQ K k,by rw [show ((1:Nat):Rat)=1 from rfl,Rat.mul_one],by rw [o_y3 K k (by omega),Nat.mul_one];exact o_y1 K k⟩
   exact hg.rs (by decide) (Nat.two_pow_pos K) (by rw [Nat.mul_one];have:=o_yx K;omega)
  have s2:RS (mkRat 1 (2^K)) 100000:=by
   have h1:RS (mkRat 1 (2^K)) 1001:=RS.mk' (Nat.two_pow_pos K) (Nat.le_trans (o_lv (by decide)) (by omega)) (by have:=o_yx K;omega)
   exact h1.le (by omega)
  have hm:=o_o4 ((wayQ K k:Nat):Rat) (mkRat 1 (2^K)) s1 s2
  rw [show ((wayQ K k:Nat):Rat)*mkRat 1 (2^K)=binP K k from rfl] at hm
  have hgt:getQ (binI (K,T,f) k) (k,T+1,f)=0:=o_yy fun p hp e=>by
   have:=(o_y8 k p hp).1
   rw [e] at this
   simp only at this
   omega
  have hadd:=o_ux (binI (K,T,f) k) (k,T+1,f) (binP K k) (by rw [hgt];exact ⟨by decide,by decide⟩) (o_yz hK hk2)
  rw [show addQ (binI (K,T,f) k) (k,T+1,f) (binP K k)=binI (K,T,f) (k+1) from rfl] at hadd
  have hsk:size (K-k)≤1:=o_lv (by omega)
  have hmu:=o_lu (wayQ K k) (K-k) (by omega) (by omega)
  have hdv:=o_m8 (wayQ K k*(K-k)) (k+1) (by have:=o_nq (wayQ K k) (K-k);omega) (by omega) (.inl (by omega)) (Nat.le_trans (o_lv (by omega)) (by omega))
  have ho2:=hof (K-k) (by omega)
  have ho3:=hof (k+1) (by omega)
  rw [show wayQ K k*(K-k)/(k+1)=wayQ K (k+1) from rfl] at hdv
  obtain ⟨A1,A2,A3,hA⟩:∃A1 A2 A3,rcD ((wayQ K k:Nat):Rat)=[A1,A2,A3]:=⟨_,_,_,rfl⟩
  obtain ⟨H1,H2,H3,hH⟩:∃H1 H2 H3,rcD (mkRat 1 (2^K))=[H1,H2,H3]:=⟨_,_,_,rfl⟩
  obtain ⟨B1,B2,B3,hB⟩:∃B1 B2 B3,rcD (binP K k)=[B1,B2,B3]:=⟨_,_,_,rfl⟩
  simp only [o_uu,stD,spO] at hrn hm hadd
  rw [hA] at hrn hm
  rw [hH] at hm hh
  rw [hB] at hm hadd
  obtain ⟨M,hM⟩:∃M,M=wayQ K k*(K-k):=⟨_,rfl⟩
  rw [←hM] at hmu hdv
  obtain ⟨R,hR⟩:∃R,R=M%(k+1):=⟨_,rfl⟩
  rw [←hR] at hdv
  obtain ⟨WN,hWN⟩:∃WN,WN=wayQ K (k+1):=⟨_,rfl⟩
  rw [←hWN] at hdv
  generalize wayQ K k=WK at *
  obtain ⟨k1,hk1⟩:∃k1,k1=k+1:=⟨_,rfl⟩
  obtain ⟨T1,hT1⟩:∃T1,T1=T+1:=⟨_,rfl⟩
  obtain ⟨Kk,hKk⟩:∃Kk,Kk=K-k:=⟨_,rfl⟩
  rw [←hT1] at hadd eT
  rw [←hk1] at hdv ho3 eu2 ew hadd
  rw [←hKk] at hmu ho2 eu es
  refine A10 (fs hk2 (fs hk3 eT)) ?_;try with_reducible exact tt
  refine CallS.pu (hrn) (R0 ?_);try with_reducible exact tt
  refine CallS.pu (hh) (R0 ?_);try with_reducible exact tt
  refine CallS.pu (hm) (R0 ?_);try with_reducible exact tt
  have eK:(K:Int)-k=(Kk:Int):=by omega
  have ek:(k:Int)+1=(k1:Int):=by omega
  refine CallS.g [1] (hadd) (R1 (fs es eu) ?_);try with_reducible exact tt
  refine A10 (fs es (fs eu eK)) ?_;try with_reducible exact tt
  refine CallS.pf 4 1 ⟨105,_⟩ [.int .u64 Kk] (ho2) (by first | rfl | (simp [eK];done)) (R1 eK ?_);try with_reducible exact tt
  refine CallS.pu (hmu) (R1 (fs ew eu2) ?_);try with_reducible exact tt
  refine A10 (fs ew (fs eu2 ek)) ?_;try with_reducible exact tt
  refine CallS.pf 5 1 ⟨105,_⟩ [.int .u64 k1] (ho3) (by first | rfl | (simp [ek];done)) (R1 ek ?_);try with_reducible exact tt
  refine CallS.pu (hdv) (R0 ?_);try with_reducible exact tt
  refine A10 (fs ew ek) ?_;try with_reducible exact tt
  refine ⟨k1,by omega,by omega,?_,?_⟩
  ·exact Sub1.int (by omega)
  ·rw [hk1,←hWN];exact ⟨Subs.refl _,Subs.refl _⟩
 ·have h2:k=K+1:=by omega
  subst h2
  have h3:¬(K:Int)+1≤K:=by omega
  have h4:((K+1:Nat):Int)=(K:Int)+1:=by omega
  have h5:¬K+1≤K:=by omega
  refine A10 (fs h3 (fs h4 h5)) ?_;try with_reducible exact tt
  exact Subs.refl _
end
section
open Go.RowKit
structure NextJ (next:St→Sp) (G J:Nat) (s:St):Prop where
 uq:Uq (next s)
 nz:nzQ (next s)≠[]
 len:(next s).length≤J
 j6:J≤1000000
 gr:∀p∈next s,Gr G 1 p.2
set_option maxHeartbeats 4000000 in
theorem o_z1 {f:FuncId} {next:St→Sp} {T1:TypeId} {x0 x1 x2:D} (ho1:T1<1000000) (P:St→Prop) (l:Sp) (G D B L J CP:Nat) (hu:Uq l) (hok:∀p∈nzQ l,P p.1) (hnz:nzQ l≠[]) (h12:(nzQ l).length≤L) (hl:l.length≤1000000) (hD:0<D) (hB:1≤B) (hgl:∀p∈l,Gr D B p.2) (hG:0<G) (hf:∀s:St,P s→NextJ next G J s∧Eqn Tryz.prog f [.d (.agg (stD s)),.p 0 0] [⟨T1,[.d x0,.d x1,.d x2]⟩] (.mp 1) [⟨T1,[.d x0,.d x1,.d x2]⟩,spO (next s)]) (hsz:size (CP*(D*G))≤100000) (hCP:L*J*B≤CP) (hJ:1≤J) :
  Eqn Tryz.prog o_87 [.mp 0,.fn (.func f) [.p 1 0]] [spO l,⟨T1,[.d x0,.d x1,.d x2]⟩] (.mp 2) [spO l,⟨T1,[.d x0,.d x1,.d x2]⟩,spO (timesQ next l)]:=by
 refine Eqn.gen [0,1,2] o_89 (by simp) (by simp) (by rfl) (by decide) (by simp) (by simp [spO,ho1]) ?_
 obtain ⟨A,hA⟩:∃A,A=atQ l:=⟨_,rfl⟩
 have hAl:A.length≤L:=by rw [hA,(o_u5 l).length_eq];exact h12
 have hAm6:A.length≤1000000:=Nat.le_trans (hA▸o_wt l) hl
 have hA0:1≤A.length:=by
  rw [hA,(o_u5 l).length_eq]
  rcases Nat.eq_zero_or_pos (nzQ l).length with e | e
  ·exact absurd (List.eq_nil_of_length_eq_zero e) hnz
  ·exact e
 have hAm:∀p∈A,p∈l:=fun p hp=>(List.mem_filter.1 ((o_u5 l).mem_iff.1 (hA▸hp))).1
 have hAz:∀p∈A,p∈nzQ l:=fun p hp=>(o_u5 l).mem_iff.1 (hA▸hp)
 have hDG:0<D*G:=Nat.mul_pos hD hG
 have hBC:B≤CP:=by
  refine Nat.le_trans ?_ hCP
  have:1≤L*J:=Nat.mul_pos (by omega) hJ
  exact Nat.le_mul_of_pos_left B this
 have hBD:size (B*D)≤100000:=by
  refine Nat.le_trans (o_k5 ?_) hsz
  exact Nat.mul_le_mul hBC (Nat.le_mul_of_pos_right D hG)
 have hat:=o_wg l hu hnz hl (fun p hp=>(hgl p hp).rs hD hB hBD)
 have hGs:size (1*G)≤100000:=by
  refine Nat.le_trans (o_k5 ?_) hsz
  rw [Nat.one_mul]
  exact Nat.le_trans (Nat.le_mul_of_pos_left G hD) (Nat.le_mul_of_pos_left _ (by omega))
 have hgn:∀s:St,P s→∀p∈next s,Gr G 1 p.2:=fun s hs=>(hf s hs).1.gr
 have hnl:∀s:St,P s→(atQ (next s)).length≤J:=fun s hs=>Nat.le_trans (o_wt _) (hf s hs).1.len
 have hnl6:∀s:St,P s→(atQ (next s)).length≤1000000:=fun s hs=>Nat.le_trans (hnl s hs) (hf s hs).1.j6
 have hout:=o_wp (D:=D) (E:=G) (B:=B) (J:=J) (next:=next) (A:=A) (fun p hp=>hgl p (hAm p hp)) (fun p hp=>⟨hgn p.1 (hok p (hAz p hp)),hnl p.1 (hok p (hAz p hp))⟩)
 have hon:=o_wl next A
 have hoa:outQ next A A.length=timesQ next l:=by rw [hA];exact o_wm next l
 have hADl:=o_tn rcD (fun _=>rfl) A
 have hget:=o_wv A
 rw [←hoa]
 rw [←hA] at hat
 have hcl:∀s:St,P s→Eqn Tryz.prog f [.d (.agg (stD s)),.p 0 0] [⟨T1,[.d x0,.d x1,.d x2]⟩] (.mp 1) [⟨T1,[.d x0,.d x1,.d x2]⟩,spO (next s)]∧Eqn Tryz.prog o_7v [.mp 0] [spO (next s)] (.d (.sl (atQ (next s)).length (spD rcD (atQ (next s))))) [spO (next s)]:=fun s hs=>by
  obtain ⟨hn,hh⟩:=hf s hs
  exact ⟨hh,o_wg _ hn.uq hn.nz (Nat.le_trans hn.len hn.j6) fun p hp=>(hgn s hs p hp).rs hG (Nat.le_refl _) hGs⟩
 have hAok:∀p∈A,P p.1:=fun p hp=>hok p (hAz p hp)
 clear hA hoa hnz hf
 refine cc (c':=?z203) ?_ ?_
 case refine_1=>cbv<;>exact rfl
 try simp only [spO] at hat hcl ⊢
 generalize hLl:spD rcD l=LL at *
 refine A00 ?_;try with_reducible exact tt
 refine CallS.g [0] (hat) (R0 ?_);try with_reducible exact tt
 refine AW.loopG (α:=Nat) (fun i=>setS (List.replicate 40 .junk) [(1,.fn (.func f) [.p 1 0]),(5,.mp 2),(12,.d (.sl A.length (spD rcD A))),(13,.d (.int .i64 A.length)),(14,.d (.int .i64 (i:Nat)))]) (fun i=>[some ⟨1000391,LL.map .d⟩,some ⟨T1,[.d x0,.d x1,.d x2]⟩,some ⟨1000391,(spD rcD (outQ next A i)).map .d⟩]) (fun i=>i≤A.length) (fun i=>A.length-i) 0 ?_ (Nat.zero_le _) ?_ ?_ ?_
 ·intro i hi;simp
 ·simp
 ·simp [outQ,spD]
 rintro i hi
 simp
 by_cases hi2:i<A.length
 ·have hi3:(i:Int)<A.length:=by omega
  obtain ⟨s1,s2,s3,q,N1,N2,N3,hp,hN,hg⟩:=hget i hi2
  have hsk:=hAok _ (List.getElem_mem hi2)
  rw [hp] at hsk
  obtain ⟨hof,han⟩:=hcl (s1,s2,s3) hsk
  have hgq:Gr D B q:=by have:=hgl _ (hAm _ (List.getElem_mem hi2));rw [hp] at this;exact this
  have hon1:=hon i hi2
  rw [hp] at hon1
  simp only at hon1
  have hgo:=hout i hi
  have hn2:=hnl (s1,s2,s3) hsk
  have hgn2:=hgn (s1,s2,s3) hsk
  have hJ6:=(hnl6 (s1,s2,s3) hsk)
  obtain ⟨C,hC⟩:∃C,C=atQ (next (s1,s2,s3)):=⟨_,rfl⟩
  have hCm:∀p∈C,Gr G 1 p.2:=fun p hp=>hgn2 p (List.mem_filter.1 ((o_u5 _).mem_iff.1 (hC▸hp))).1
  rw [←hC] at hon1 han hn2 hJ6
  have hCl:=o_tn rcD (fun _=>rfl) C
  have hgetC:=o_wv C
  have ewi:IntKind.i64.wrap ((i:Int)+1)=((i+1:Nat):Int):=by rw [w64 (by omega) (by omega)];omega
  simp only [stD] at hof han
  generalize hNL:spD rcD (next (s1,s2,s3))=NL at *
  have hb6:i*6+6≤A.length*6:=by omega
  have hb7:i*6<A.length*6:=by omega
  refine A10 (fs hi2 (fs hi3 (fs hg (fs hADl (fs hb6 hb7))))) ?_;try with_reducible exact tt
  refine CallS.g [1] (hof) (R0 ?_);try with_reducible exact tt
  refine CallS.g [4] (han) (R0 ?_);try with_reducible exact tt
  refine AW.loopG (α:=Nat) (fun j=>setS (List.replicate 40 .junk) [(1,.fn (.func f) [.p 1 0]),(5,.mp 2),(7,.p 3 0),(12,.d (.sl A.length (spD rcD A))),(13,.d (.int .i64 A.length)),(14,.d (.int .i64 (i:Nat))),(22,.d (.sl C.length (spD rcD C))),(23,.d (.int .i64 C.length)),(24,.d (.int .i64 (j:Nat)))]) (fun j=>[some ⟨1000391,LL.map .d⟩,some ⟨T1,[.d x0,.d x1,.d x2]⟩,some ⟨1000391,(spD rcD (innQ q (outQ next A i) (C.take j))).map .d⟩,some ⟨48,[.d (.int .i64 s1),.d (.int .i64 s2),.d (.bool s3),.d N1,.d N2,.d N3]⟩]) (fun j=>j≤C.length) (fun j=>C.length-j) 0 ?_ (Nat.zero_le _) ?_ ?_ ?_
  ·intro j hj;simp
  ·simp
  ·simp [innQ]
  rintro j hj
  simp
  by_cases hj2:j<C.length
  ·have hj3:(j:Int)<C.length:=by omega
   obtain ⟨t1,t2,t3,r,M1,M2,M3,hpc,hM,hgc⟩:=hgetC j hj2
   have hinn:=o_wk q (outQ next A i) C j hj2
   have hgr:=hCm _ (List.getElem_mem hj2)
   rw [hpc] at hinn hgr
   simp only at hinn hgr
   have hqr:=hgq.mul hgr
   have hgi:=o_wo (q:=q) (B:=B) hgo (C.take j) (fun p hp=>by
    have:=hgq.mul (hCm p (List.mem_of_mem_take hp))
    rwa [Nat.mul_one] at this)
   have hget2:=(o_wn hgi (t1,t2,t3)).le (C:=CP) (by
    have e1:(C.take j).length≤j:=by rw [List.length_take];omega
    have e2:=Nat.mul_le_mul_right B e1
    have e3:(i*J+j)*B≤L*J*B:=Nat.mul_le_mul_right _ (by
     have:(i+1)*J≤L*J:=Nat.mul_le_mul_right J (by omega)
     rw [Nat.add_mul,Nat.one_mul] at this
     omega)
    rw [Nat.add_mul] at e3
    omega)
   have hq1:=hgq.rs hD hB hBD
   have hr1:=hgr.rs hG (Nat.le_refl _) hGs
   have hmul:=o_o4 q r hq1 hr1
   have hadd:=o_ux (innQ q (outQ next A i) (C.take j)) (t1,t2,t3) (q*r) (hget2.rs hDG (by omega) hsz) ((hqr.le (C:=CP) (by omega)).rs hDG (by omega) hsz)
   have ewj:IntKind.i64.wrap ((j:Int)+1)=((j+1:Nat):Int):=by rw [w64 (by omega) (by omega)];omega
   have hc6:j*6+6≤C.length*6:=by omega
   have hc7:j*6<C.length*6:=by omega
   rw [←hinn] at hadd
   rw [o_uu q,o_uu r,o_uu (q*r),hN,hM] at hmul
   rw [o_uu (q*r)] at hadd
   obtain ⟨P1,P2,P3,hP⟩:∃P1 P2 P3,rcD (q*r)=[P1,P2,P3]:=⟨_,_,_,rfl⟩
   rw [hP] at hmul hadd
   simp only [spO,stD] at hadd
   refine A10 (fs hj2 (fs hj3 (fs hgc (fs hCl (fs hc6 hc7))))) ?_;try with_reducible exact tt
   refine CallS.pu (hmul) (R0 ?_);try with_reducible exact tt
   refine CallS.g [2] (hadd) (R0 ?_);try with_reducible exact tt
   refine A10 ewj ?_;try with_reducible exact tt
   refine ⟨j+1,2,2,⟨by omega,by omega,by omega,by omega⟩,by omega,by omega,?_,?_⟩
   ·simp [swT,swH,sw,Ob.sw,V.ren,V.rens]
   ·simp [swT,swH,sw,Ob.sw,V.ren,V.rens]
  ·have h2:j=C.length:=by omega
   subst h2
   rw [List.take_length,←hon1]
   refine A00 ?_;try with_reducible exact tt
   refine A10 ewi ?_;try with_reducible exact tt
   refine ⟨i+1,2,2,⟨by omega,by omega,by omega,by omega⟩,by omega,by omega,?_,?_⟩
   ·simp [swT,swH,sw,Ob.sw,V.ren,V.rens]
   ·simp [swT,swH,sw,Ob.sw,V.ren,V.rens]
 ·have h2:i=A.length:=by omega
  subst h2
  refine A00 ?_;try with_reducible exact tt
set_option maxHeartbeats 4000000 in
theorem o_z2 {f:FuncId} {next:St→Sp} (P:St→Prop) (l:Sp) (G D B L J CP:Nat) (hu:Uq l) (hok:∀p∈nzQ l,P p.1) (hnz:nzQ l≠[]) (h12:(nzQ l).length≤L) (hl:l.length≤1000000) (hD:0<D) (hB:1≤B) (hgl:∀p∈l,Gr D B p.2) (hG:0<G) (hf:∀s:St,P s→NextJ next G J s∧Eqn Tryz.prog f [.d (.agg (stD s))] [] (.mp 0) [spO (next s)]) (hsz:size (CP*(D*G))≤100000) (hCP:L*J*B≤CP) (hJ:1≤J) :
  Eqn Tryz.prog o_87 [.mp 0,.fn (.func f) []] [spO l] (.mp 1) [spO l,spO (timesQ next l)]:=by
 refine Eqn.gen [0,1] o_89 (by simp) (by simp) (by rfl) (by decide) (by simp) (by simp [spO]) ?_
 obtain ⟨A,hA⟩:∃A,A=atQ l:=⟨_,rfl⟩
 have hAl:A.length≤L:=by rw [hA,(o_u5 l).length_eq];exact h12
 have hAm6:A.length≤1000000:=Nat.le_trans (hA▸o_wt l) hl
 have hA0:1≤A.length:=by
  rw [hA,(o_u5 l).length_eq]
  rcases Nat.eq_zero_or_pos (nzQ l).length with e | e
  ·exact absurd (List.eq_nil_of_length_eq_zero e) hnz
  ·exact e
 have hAm:∀p∈A,p∈l:=fun p hp=>(List.mem_filter.1 ((o_u5 l).mem_iff.1 (hA▸hp))).1
 have hAz:∀p∈A,p∈nzQ l:=fun p hp=>(o_u5 l).mem_iff.1 (hA▸hp)
 have hDG:0<D*G:=Nat.mul_pos hD hG
 have hBC:B≤CP:=by
  refine Nat.le_trans ?_ hCP
  have:1≤L*J:=Nat.mul_pos (by omega) hJ
  exact Nat.le_mul_of_pos_left B this
 have hBD:size (B*D)≤100000:=by
  refine Nat.le_trans (o_k5 ?_) hsz
  exact Nat.mul_le_mul hBC (Nat.le_mul_of_pos_right D hG)
 have hat:=o_wg l hu hnz hl (fun p hp=>(hgl p hp).rs hD hB hBD)
 have hGs:size (1*G)≤100000:=by
  refine Nat.le_trans (o_k5 ?_) hsz
  rw [Nat.one_mul]
  exact Nat.le_trans (Nat.le_mul_of_pos_left G hD) (Nat.le_mul_of_pos_left _ (by omega))
 have hgn:∀s:St,P s→∀p∈next s,Gr G 1 p.2:=fun s hs=>(hf s hs).1.gr
 have hnl:∀s:St,P s→(atQ (next s)).length≤J:=fun s hs=>Nat.le_trans (o_wt _) (hf s hs).1.len
 have hnl6:∀s:St,P s→(atQ (next s)).length≤1000000:=fun s hs=>Nat.le_trans (hnl s hs) (hf s hs).1.j6
 have hout:=o_wp (D:=D) (E:=G) (B:=B) (J:=J) (next:=next) (A:=A) (fun p hp=>hgl p (hAm p hp)) (fun p hp=>⟨hgn p.1 (hok p (hAz p hp)),hnl p.1 (hok p (hAz p hp))⟩)
 have hon:=o_wl next A
 have hoa:outQ next A A.length=timesQ next l:=by rw [hA];exact o_wm next l
 have hADl:=o_tn rcD (fun _=>rfl) A
 have hget:=o_wv A
 rw [←hoa]
 rw [←hA] at hat
 have hcl:∀s:St,P s→Eqn Tryz.prog f [.d (.agg (stD s))] [] (.mp 0) [spO (next s)]∧Eqn Tryz.prog o_7v [.mp 0] [spO (next s)] (.d (.sl (atQ (next s)).length (spD rcD (atQ (next s))))) [spO (next s)]:=fun s hs=>by
  obtain ⟨hn,hh⟩:=hf s hs
  exact ⟨hh,o_wg _ hn.uq hn.nz (Nat.le_trans hn.len hn.j6) fun p hp=>(hgn s hs p hp).rs hG (Nat.le_refl _) hGs⟩
 have hAok:∀p∈A,P p.1:=fun p hp=>hok p (hAz p hp)
 clear hA hoa hnz hf
 refine cc (c':=?z204) ?_ ?_
 case refine_1=>cbv<;>exact rfl
 try simp only [spO] at hat hcl ⊢
 generalize hLl:spD rcD l=LL at *
 refine A00 ?_;try with_reducible exact tt
 refine CallS.g [0] (hat) (R0 ?_);try with_reducible exact tt
 refine AW.loopG (α:=Nat) (fun i=>setS (List.replicate 40 .junk) [(1,.fn (.func f) []),(5,.mp 1),(12,.d (.sl A.length (spD rcD A))),(13,.d (.int .i64 A.length)),(14,.d (.int .i64 (i:Nat)))]) (fun i=>[some ⟨1000391,LL.map .d⟩,some ⟨1000391,(spD rcD (outQ next A i)).map .d⟩]) (fun i=>i≤A.length) (fun i=>A.length-i) 0 ?_ (Nat.zero_le _) ?_ ?_ ?_
 ·intro i hi;simp
 ·simp
 ·simp [outQ,spD]
 rintro i hi
 simp
 by_cases hi2:i<A.length
 ·have hi3:(i:Int)<A.length:=by omega
  obtain ⟨s1,s2,s3,q,N1,N2,N3,hp,hN,hg⟩:=hget i hi2
  have hsk:=hAok _ (List.getElem_mem hi2)
  rw [hp] at hsk
  obtain ⟨hof,han⟩:=hcl (s1,s2,s3) hsk
  have hgq:Gr D B q:=by have:=hgl _ (hAm _ (List.getElem_mem hi2));rw [hp] at this;exact this
  have hon1:=hon i hi2
  rw [hp] at hon1
  simp only at hon1
  have hgo:=hout i hi
  have hn2:=hnl (s1,s2,s3) hsk
  have hgn2:=hgn (s1,s2,s3) hsk
  have hJ6:=(hnl6 (s1,s2,s3) hsk)
  obtain ⟨C,hC⟩:∃C,C=atQ (next (s1,s2,s3)):=⟨_,rfl⟩
  have hCm:∀p∈C,Gr G 1 p.2:=fun p hp=>hgn2 p (List.mem_filter.1 ((o_u5 _).mem_iff.1 (hC▸hp))).1
  rw [←hC] at hon1 han hn2 hJ6
  have hCl:=o_tn rcD (fun _=>rfl) C
  have hgetC:=o_wv C
  have ewi:IntKind.i64.wrap ((i:Int)+1)=((i+1:Nat):Int):=by rw [w64 (by omega) (by omega)];omega
  simp only [stD] at hof han
  generalize hNL:spD rcD (next (s1,s2,s3))=NL at *
  have hb6:i*6+6≤A.length*6:=by omega
  have hb7:i*6<A.length*6:=by omega
  refine A10 (fs hi2 (fs hi3 (fs hg (fs hADl (fs hb6 hb7))))) ?_;try with_reducible exact tt
  refine CallS.nX (hof) (R0 ?_);try with_reducible exact tt
  refine CallS.g [3] (han) (R0 ?_);try with_reducible exact tt
  refine AW.loopG (α:=Nat) (fun j=>setS (List.replicate 40 .junk) [(1,.fn (.func f) []),(5,.mp 1),(7,.p 2 0),(12,.d (.sl A.length (spD rcD A))),(13,.d (.int .i64 A.length)),(14,.d (.int .i64 (i:Nat))),(22,.d (.sl C.length (spD rcD C))),(23,.d (.int .i64 C.length)),(24,.d (.int .i64 (j:Nat)))]) (fun j=>[some ⟨1000391,LL.map .d⟩,some ⟨1000391,(spD rcD (innQ q (outQ next A i) (C.take j))).map .d⟩,some ⟨48,[.d (.int .i64 s1),.d (.int .i64 s2),.d (.bool s3),.d N1,.d N2,.d N3]⟩]) (fun j=>j≤C.length) (fun j=>C.length-j) 0 ?_ (Nat.zero_le _) ?_ ?_ ?_
  ·intro j hj;simp
  ·simp
  ·simp [innQ]
  rintro j hj
  simp
  by_cases hj2:j<C.length
  ·have hj3:(j:Int)<C.length:=by omega
   obtain ⟨t1,t2,t3,r,M1,M2,M3,hpc,hM,hgc⟩:=hgetC j hj2
   have hinn:=o_wk q (outQ next A i) C j hj2
   have hgr:=hCm _ (List.getElem_mem hj2)
   rw [hpc] at hinn hgr
   simp only at hinn hgr
   have hqr:=hgq.mul hgr
   have hgi:=o_wo (q:=q) (B:=B) hgo (C.take j) (fun p hp=>by
    have:=hgq.mul (hCm p (List.mem_of_mem_take hp))
    rwa [Nat.mul_one] at this)
   have hget2:=(o_wn hgi (t1,t2,t3)).le (C:=CP) (by
    have e1:(C.take j).length≤j:=by rw [List.length_take];omega
    have e2:=Nat.mul_le_mul_right B e1
    have e3:(i*J+j)*B≤L*J*B:=Nat.mul_le_mul_right _ (by
     have:(i+1)*J≤L*J:=Nat.mul_le_mul_right J (by omega)
     rw [Nat.add_mul,Nat.one_mul] at this
     omega)
    rw [Nat.add_mul] at e3
    omega)
   have hq1:=hgq.rs hD hB hBD
   have hr1:=hgr.rs hG (Nat.le_refl _) hGs
   have hmul:=o_o4 q r hq1 hr1
   have hadd:=o_ux (innQ q (outQ next A i) (C.take j)) (t1,t2,t3) (q*r) (hget2.rs hDG (by omega) hsz) ((hqr.le (C:=CP) (by omega)).rs hDG (by omega) hsz)
   have ewj:IntKind.i64.wrap ((j:Int)+1)=((j+1:Nat):Int):=by rw [w64 (by omega) (by omega)];omega
   have hc6:j*6+6≤C.length*6:=by omega
   have hc7:j*6<C.length*6:=by omega
   rw [←hinn] at hadd
   rw [o_uu q,o_uu r,o_uu (q*r),hN,hM] at hmul
   rw [o_uu (q*r)] at hadd
   obtain ⟨P1,P2,P3,hP⟩:∃P1 P2 P3,rcD (q*r)=[P1,P2,P3]:=⟨_,_,_,rfl⟩
   rw [hP] at hmul hadd
   simp only [spO,stD] at hadd
   refine A10 (fs hj2 (fs hj3 (fs hgc (fs hCl (fs hc6 hc7))))) ?_;try with_reducible exact tt
   refine CallS.pu (hmul) (R0 ?_);try with_reducible exact tt
   refine CallS.g [1] (hadd) (R0 ?_);try with_reducible exact tt
   refine A10 ewj ?_;try with_reducible exact tt
   refine ⟨j+1,1,1,⟨by omega,by omega⟩,by omega,by omega,?_,?_⟩
   ·simp [swT,swH,sw,Ob.sw,V.ren,V.rens]
   ·simp [swT,swH,sw,Ob.sw,V.ren,V.rens]
  ·have h2:j=C.length:=by omega
   subst h2
   rw [List.take_length,←hon1]
   refine A00 ?_;try with_reducible exact tt
   refine A10 ewi ?_;try with_reducible exact tt
   refine ⟨i+1,1,1,⟨by omega,by omega⟩,by omega,by omega,?_,?_⟩
   ·simp [swT,swH,sw,Ob.sw,V.ren,V.rens]
   ·simp [swT,swH,sw,Ob.sw,V.ren,V.rens]
 ·have h2:i=A.length:=by omega
  subst h2
  refine A00 ?_;try with_reducible exact tt
end
section
open Go.RowKit
theorem o_z3 (s:St):∀i,(binI s i).length≤i
 | 0=>Nat.le_refl _
 | i+1=>Nat.le_trans (o_wr _ _ _) (Nat.succ_le_succ (o_z3 s i))
theorem o_z4 {α:Type} (c:Nat):∀l:List α,(l.map fun _=>c).sum=l.length*c
 | []=>by simp
 | _::l=>by rw [List.map_cons,List.sum_cons,o_z4 c l,List.length_cons,Nat.add_mul];omega
theorem o_z5 {A B:Nat} {l:Sp} (hu:Uq l) (h:kyQ (okT A B) l):l.length≤(A+1)*((B+1)*2):=by
 have h1:(l.map (·.1)).length≤((List.range (A+1)).flatMap fun a=>(List.range (B+1)).flatMap fun b=>([(a,b,false),(a,b,true)]:List St)).length:=by
  refine List.Nodup.length_le_of_subset hu fun t ht=>?_
  obtain ⟨p,hp,rfl⟩:=List.mem_map.1 ht
  obtain ⟨h1,h2,-⟩:=h p hp
  refine List.mem_flatMap.2 ⟨p.1.1,List.mem_range.2 (by omega),List.mem_flatMap.2 ⟨p.1.2.1,List.mem_range.2 (by omega),?_⟩⟩
  obtain ⟨⟨a,b,f⟩,q⟩:=p
  cases f<;>simp
 rw [List.length_map] at h1
 simpa [List.length_flatMap,o_z4] using h1
theorem SpOK.nextJ {e:Nat} {P:St→Prop} {next:St→Sp} {J:Nat} {s:St} (h:SpOK e P (next s)) (hl:(next s).length≤J) (hJ:J≤1000000):NextJ next (2^e) J s:=⟨h.uq,h.nz,hl,hJ,h.gr⟩
structure ThS (A B:Nat):Prop where
 a1:1≤A
 n:(A+1)*(B+1)≤1000
 b:B≤900
 a:A≤450
 gd:GoodT A B
theorem o_z6 {L J e f:Nat} (hL:L≤100000) (hJ:J≤10000) (he:e+f≤90000):size (L*J*(2^e*2^f))≤100000:=by
 have h1:L*J≤100000*10000:=Nat.mul_le_mul hL hJ
 have h2:=o_nq (L*J) (2^e*2^f)
 rw [←Nat.pow_add] at *
 have h3:=o_yx (e+f)
 have h4:size (L*J)≤1:=o_lv (by omega)
 omega
set_option maxHeartbeats 4000000 in
theorem o_z7 {A B X:Nat} (h:ThS A B) (hX:X≤900) (hXB:X*(B+1)≤80000):∀(f:Nat) (s:St),s.2.1+f=B→s.1≤X→(s.2.2=true→s.2.1=B)→Eqn Tryz.prog o_9v [.d (parD 4 A B),.d (.agg (stD s))] [] (.mp 0) [spO (downA A B s)]:=by
 intro f
 induction f with
 | zero =>
  intro s hT hsX hf
  refine Eqn.gen [2] o_9x (by simp) (by simp) (by rfl) (by decide) (by simp) (by simp [spO]) ?_
  obtain ⟨K,T,F⟩:=s
  simp only at hT hsX hf
  by_cases hk:K≤A
  ·have hk':(K:Int)≤A:=by omega
   have hsu:=o_v1 (K,T,F)
   rw [o_yn (s:=(K,T,F)) hk]
   refine cc (c':=?z205) ?_ ?_
   case refine_1=>cbv<;>exact rfl
   try simp only [spO,stD,parD] at hsu ⊢
   generalize spD rcD _=L at *
   refine A10 (fs hk hk') ?_;try with_reducible exact tt
   refine CallS.nX (hsu) (R0 ?_);try with_reducible exact tt
  ·have hk':¬(K:Int)≤A:=by omega
   have hT2:T=B:=by omega
   have hsu:=o_v1 (A,T,true)
   rw [o_yo (s:=(K,T,F)) hk (by simp only;omega)]
   subst hT2
   refine cc (c':=?z206) ?_ ?_
   case refine_1=>cbv<;>exact rfl
   try simp only [spO,stD,parD] at hsu ⊢
   generalize spD rcD _=L at *
   refine A10 (fs hk hk') ?_;try with_reducible exact tt
   refine CallS.nX (hsu) (R0 ?_);try with_reducible exact tt
 | succ f ih =>
  intro s hT hsX hf
  by_cases hk:s.1≤A
  ·refine Eqn.gen [2] o_9x (by simp) (by simp) (by rfl) (by decide) (by simp) (by simp [spO]) ?_
   obtain ⟨K,T,F⟩:=s
   simp only at hT hsX hf hk
   have hk':(K:Int)≤A:=by omega
   have hsu:=o_v1 (K,T,F)
   rw [o_yn (s:=(K,T,F)) hk]
   refine cc (c':=?z207) ?_ ?_
   case refine_1=>cbv<;>exact rfl
   try simp only [spO,stD,parD] at hsu ⊢
   generalize spD rcD _=L at *
   refine A10 (fs hk hk') ?_;try with_reducible exact tt
   refine CallS.nX (hsu) (R0 ?_);try with_reducible exact tt
  ·have hTB:s.2.1<B:=by omega
   have hb:=SpOK.bin s
   have hbX:=hb.mono hsX fun _ h=>h
   have hJ:(A+1)*((B+1)*2)≤2000:=by rw [←Nat.mul_assoc];have:=h.n;omega
   have hXf:X+X*f≤90000:=by
    have:X*(f+1)≤X*(B+1):=Nat.mul_le_mul_left _ (by omega)
    rw [Nat.mul_add] at this
    omega
   have hcl:∀t:St,(t.1≤s.1∧t.2=(s.2.1+1,s.2.2))→NextJ (downA A B) (2^(X*f)) ((A+1)*((B+1)*2)) t∧Eqn Tryz.prog o_ct [.d (.agg (stD t)),.p 0 0] [PO 4 A B] (.mp 1) [PO 4 A B,spO (downA A B t)]:=by
    intro t ht
    have hf0:s.2.2=false:=by
     cases hf2:s.2.2 with
     | false=>rfl
     | true=>have:=hf hf2;omega
    have e1:t.2.1+f=B:=by rw [ht.2];simp only;omega
    have e2:t.2.2=true→t.2.1=B:=by rw [ht.2];simp only [hf0];intro h;cases h
    have hd:=SpOK.down (A:=A) (B:=B) (X:=X) f t e1 (by omega) e2
    refine ⟨hd.nextJ (o_z5 hd.uq hd.ky) (by omega),?_⟩
    have hdn:=ih t e1 (by omega) e2
    refine Eqn.gen [0,2] o_cv (by simp) (by simp) (by rfl) (by decide) (by simp) (by simp [spO,PO]) ?_
    refine cc (c':=?z208) ?_ ?_
    case refine_1=>cbv<;>exact rfl
    try simp only [spO,stD,parD,PO] at hdn ⊢
    generalize spD rcD _=L at *
    refine A00 ?_;try with_reducible exact tt
    refine CallS.nX (hdn) (R0 ?_);try with_reducible exact tt
   have hti:=o_z1 (f:=o_ct) (next:=downA A B) (T1:=27) (x0:=.int .i64 4) (x1:=.int .i64 A) (x2:=.int .i64 B) (by decide) (fun t:St=>t.1≤s.1∧t.2=(s.2.1+1,s.2.2)) (binQ s) (2^(X*f)) (2^X) 1 1000 ((A+1)*((B+1)*2)) (1000*((A+1)*((B+1)*2))) hb.uq (fun p hp=>hb.ky p (List.mem_filter.1 hp).1) hb.nz (Nat.le_trans (List.length_filter_le _ _) (Nat.le_trans (o_z3 s _) (by omega))) (Nat.le_trans (o_z3 s _) (by omega)) (Nat.two_pow_pos _) (Nat.le_refl _) hbX.gr (Nat.two_pow_pos _) hcl (o_z6 (by omega) (by omega) hXf) (by omega) (Nat.mul_pos (by omega) (by omega))
   have hbi:=o_z0 s (by omega) (by have:=h.b;omega)
   rw [o_yp hk hTB]
   refine Eqn.gen [3] o_9x (by simp) (by simp) (by rfl) (by decide) (by simp) (by simp [spO]) ?_
   obtain ⟨K,T,F⟩:=s
   simp only at hT hsX hf hk hTB
   have hk':¬(K:Int)≤A:=by omega
   have hTB':¬(T:Int)=B:=by omega
   have hTB2:¬T=B:=by omega
   have hTB3:((T:Int)==(B:Int))=false:=by simp;omega
   refine cc (c':=?z209) ?_ ?_
   case refine_1=>cbv<;>exact rfl
   try simp only [spO,stD,parD] at hbi hti ⊢
   generalize spD rcD (timesQ _ _)=L2 at *
   generalize spD rcD (binQ _)=L at *
   refine A10 (fs hk (fs hk' (fs hTB' (fs hTB2 hTB3)))) ?_;try with_reducible exact tt
   refine CallS.nX (hbi) (R0 ?_);try with_reducible exact tt
   refine CallS.g [2,0] (hti) (R0 ?_);try with_reducible exact tt
end
section
open Go.RowKit
def Gd (D:Nat) (q:Rat):Prop:=∃z:Nat,q*(D:Rat)=(z:Rat)
theorem Gd.zero (D:Nat):Gd D 0:=⟨0,by rw [Rat.zero_mul];rfl⟩
theorem Gd.one (D:Nat):Gd D 1:=⟨D,by rw [Rat.one_mul]⟩
theorem Gd.add {D:Nat} {x y:Rat} (hx:Gd D x) (hy:Gd D y):Gd D (x+y):=by
 obtain ⟨z,h1⟩:=hx
 obtain ⟨w,h2⟩:=hy
 refine ⟨z+w,?_⟩
 rw [Rat.natCast_add,←h1,←h2];grind
theorem Gd.mul {D E:Nat} {x y:Rat} (hx:Gd D x) (hy:Gd E y):Gd (D*E) (x*y):=by
 obtain ⟨z,h1⟩:=hx
 obtain ⟨w,h2⟩:=hy
 refine ⟨z*w,?_⟩
 rw [Rat.natCast_mul z w,←h1,←h2,Rat.natCast_mul];grind
theorem Gd.nn {D:Nat} {q:Rat} (hD:0<D) (h:Gd D q):0≤q:=by
 obtain ⟨z,h⟩:=h
 have hp:(0:Rat)<(D:Rat):=by exact_mod_cast hD
 apply Classical.byContradiction
 intro hn
 have hz:(0:Rat)≤(z:Rat):=by exact_mod_cast Nat.zero_le z
 have:=Rat.mul_lt_mul_of_pos_right (Rat.not_le.1 hn) hp
 grind
theorem Gd.gr {D:Nat} {x:Rat} (h:Gd D x) (h1:x≤1):Gr D 1 x:=by
 obtain ⟨z,h⟩:=h
 refine ⟨z,h,?_⟩
 have hp:(0:Rat)≤(D:Rat):=by exact_mod_cast Nat.zero_le _
 have h2:=Rat.mul_le_mul_of_nonneg_right h1 hp
 rw [h,Rat.one_mul] at h2
 have:z≤D:=by exact_mod_cast h2
 omega
theorem Gr.gd {D:Nat} {x:Rat} (h:Gr D 1 x):Gd D x∧Gd D (1-x):=by
 obtain ⟨z,h1,h2⟩:=h
 have h3:=Gr.sub1 ⟨z,h1,h2⟩
 obtain ⟨w,h4,-⟩:=h3
 exact ⟨⟨z,h1⟩,⟨w,h4⟩⟩
structure SpD (D:Nat) (P:St→Prop) (l:Sp):Prop where
 dp:0<D
 uq:Uq l
 one:exQ (fun _=>1) l=1
 gd:∀p∈l,Gd D p.2
 ky:kyQ P l
theorem SpD.nn {D:Nat} {P:St→Prop} {l:Sp} (h:SpD D P l):∀p∈l,0≤p.2:=fun p hp=>(h.gd p hp).nn h.dp
theorem SpD.gr {D:Nat} {P:St→Prop} {l:Sp} (h:SpD D P l):∀p∈l,Gr D 1 p.2:=fun p hp=>(h.gd p hp).gr (o_ye h.nn (by rw [h.one];exact Rat.le_refl) p hp)
theorem SpD.rs {D N:Nat} {P:St→Prop} {l:Sp} (h:SpD D P l) (hN:size D≤N):∀p∈l,RS p.2 N:=fun p hp=>(h.gr p hp).rs h.dp (Nat.le_refl _) (by rw [Nat.one_mul];exact hN)
theorem SpD.nz {D:Nat} {P:St→Prop} {l:Sp} (h:SpD D P l):nzQ l≠[]:=o_xy h.one
theorem SpD.sure {P:St→Prop} (s:St) (hs:P s) {D:Nat} (hD:0<D):SpD D P [(s,1)] where
 dp:=hD
 uq:=by simp [Uq]
 one:=by simp only [exQ];grind
 gd:=fun p hp=>by simp at hp;subst hp;exact Gd.one D
 ky:=fun p hp=>by simp at hp;subst hp;exact hs
theorem o_z8 {D:Nat} {l:Sp} (h:∀p∈l,Gd D p.2) (s:St):Gd D (getQ l s):=by
 induction l with
 | nil=>exact Gd.zero D
 | cons p l ih =>
  unfold getQ
  split
  ·exact h p (by simp)
  ·exact ih fun q hq=>h q (by simp [hq])
theorem o_z9 {D:Nat} {l:Sp} (h:∀p∈l,Gd D p.2) {s:St} {q:Rat} (hq:Gd D q):∀p∈addQ l s q,Gd D p.2:=by
 intro p hp
 rcases o_uj hp with hp | rfl
 ·exact h p hp
 ·exact (o_z8 h s).add hq
theorem o_za {D E:Nat} {q:Rat} (hq:Gd D q):∀{l out:Sp},(∀p∈out,Gd (D*E) p.2)→(∀p∈l,Gd E p.2)→∀p∈innQ q out l,Gd (D*E) p.2
 | [],out,h,_=>h
 | b::l,out,h,hl=>o_za hq (out:=addQ out b.1 (q*b.2)) (l:=l) (o_z9 h (hq.mul (hl b (by simp)))) fun p hp=>hl p (by simp [hp])
theorem o_zb {D E:Nat} {next:St→Sp} {l:Sp} (h:∀p∈l,Gd D p.2) (hn:∀p∈l,∀q∈next p.1,Gd E q.2):∀p∈timesQ next l,Gd (D*E) p.2:=by
 have key:∀(k out:Sp),(∀p∈out,Gd (D*E) p.2)→(∀p∈k,Gd D p.2∧∀q∈next p.1,Gd E q.2)→∀p∈k.foldl (fun out a=>innQ a.2 out (atQ (next a.1))) out,Gd (D*E) p.2:=by
  intro k
  induction k with
  | nil=>intro out h _;exact h
  | cons a k ih =>
   intro out ho hk
   obtain ⟨h1,h2⟩:=hk a (by simp)
   exact ih _ (o_za h1 ho fun p hp=>h2 p (List.mem_filter.1 ((o_u5 _).mem_iff.1 hp)).1) fun p hp=>hk p (by simp [hp])
 refine key _ _ (fun p hp=>by cases hp) fun p hp=>?_
 have hp':=(List.mem_filter.1 ((o_u5 l).mem_iff.1 hp)).1
 exact ⟨h p hp',hn p hp'⟩
theorem SpD.times {D E:Nat} {P Q:St→Prop} {next:St→Sp} {l:Sp} (h:SpD D P l) (hE:0<E) (hn:∀s,P s→SpD E Q (next s)):SpD (D*E) Q (timesQ next l) where
 dp:=Nat.mul_pos h.dp hE
 uq:=o_ue _ _
 one:=by
  rw [o_uf,o_yj (h:=fun _=>1) fun p hp=>(hn _ (h.ky p hp)).one]
  exact h.one
 gd:=o_zb h.gd fun p hp=>(hn _ (h.ky p hp)).gd
 ky:=by
  have key:∀(k out:Sp),kyQ Q out→(∀p∈k,P p.1)→kyQ Q (k.foldl (fun out a=>innQ a.2 out (atQ (next a.1))) out):=by
   intro k
   induction k with
   | nil=>intro out h _;exact h
   | cons a k ih =>
    intro out ho hk
    exact ih _ (o_x2 ho (o_x3 (hn _ (hk a (by simp))).ky)) fun p hp=>hk p (by simp [hp])
  exact key _ _ (fun p hp=>by cases hp) fun p hp=>h.ky p (List.mem_filter.1 ((o_u5 l).mem_iff.1 hp)).1
theorem SpD.of {G:Nat} {P:St→Prop} {next:St→Sp} (hG:0<G) (hn:∀s,P s→SpD G P (next s)) {s:St} (hs:P s):∀n,SpD (G^n) P (ofQ next s n)
 | 0=>SpD.sure s hs (Nat.pow_pos hG)
 | n+1=>by
  rw [Nat.pow_succ]
  exact (SpD.of hG hn hs n).times hG hn
theorem SpD.eit {D:Nat} {P:St→Prop} {x:Rat} {s o:St} (hD:0<D) (hx:Gr D 1 x) (hs:P s) (ho:P o):SpD D P (eitQ x s o) where
 dp:=hD
 uq:=(o_uh (fun _=>0) x s o).1
 one:=by rw [(o_uh (fun _=>1) x s o).2];grind
 gd:=o_z9 (o_z9 (fun p hp=>by cases hp) hx.gd.1) hx.gd.2
 ky:=fun p hp=>by
  unfold eitQ at hp
  rcases o_uj hp with hp | rfl
  ·rcases o_uj hp with hp | rfl
   ·cases hp
   ·exact hs
  ·exact ho
theorem SpD.nextJ {D:Nat} {P:St→Prop} {next:St→Sp} {J:Nat} {s:St} (h:SpD D P (next s)) (hl:(next s).length≤J) (hJ:J≤1000000):NextJ next D J s:=⟨h.uq,h.nz,hl,hJ,h.gr⟩
theorem SpD.step {G top:Nat} {c:Nat→Rat} (hG:0<G) (hc:∀x,x<top→Gr G 1 (c x)) {s:St} (hs:okQ top s):SpD G (okQ top) (stepQ top c s):=by
 obtain ⟨y,t,f⟩:=s
 obtain ⟨h1,h2,h3⟩:=hs
 simp only at h1 h2 h3
 subst h2
 unfold stepQ
 by_cases e:y=top
 ·rw [if_pos e]
  exact SpD.sure _ ⟨h1,rfl,fun _=>e⟩ hG
 ·rw [if_neg e]
  have hf:f=false:=by
   cases f with
   | false=>rfl
   | true=>exact absurd (h3 rfl) e
  subst hf
  exact SpD.eit hG (hc y (by omega)) ⟨by simp only;omega,rfl,by simp⟩ ⟨h1,rfl,by simp⟩
theorem o_zc {a top:Nat} (x:Nat) (hx:x≤top):Gr ((a+1)^top) 1 (chM a x):=by
 unfold chM
 have key:∀n,∃z:Nat,mkRat (a:Int) (a+1)^n*(((a+1)^n:Nat):Rat)=(z:Rat)∧z≤(a+1)^n:=by
  intro n
  induction n with
  | zero=>exact ⟨1,by simp,by simp⟩
  | succ n ih =>
   obtain ⟨z,h1,h2⟩:=ih
   refine ⟨z*a,?_,by rw [Nat.pow_succ];exact Nat.mul_le_mul h2 (by omega)⟩
   have e1:mkRat (a:Int) (a+1)*((a+1:Nat):Rat)=(a:Rat):=by
    rw [Rat.mkRat_eq_div]
    have:((a:Int):Rat)=(a:Rat):=rfl
    rw [this]
    exact Rat.div_mul_cancel (o_wi (by omega))
   have e2:(((a+1)^(n+1):Nat):Rat)=(((a+1)^n:Nat):Rat)*((a+1:Nat):Rat):=by rw [Nat.pow_succ];simp
   have e3:((z*a:Nat):Rat)=(z:Rat)*(a:Rat):=by simp
   rw [Rat.pow_succ,e2,e3,←h1,←e1];grind
 obtain ⟨z,h1,h2⟩:=key x
 refine ⟨z*(a+1)^(top-x),?_,?_⟩
 ·have e1:(((a+1)^top:Nat):Rat)=(((a+1)^x:Nat):Rat)*(((a+1)^(top-x):Nat):Rat):=by
   have:(a+1)^top=(a+1)^x*(a+1)^(top-x):=by rw [←Nat.pow_add];congr 1;omega
   rw [this];simp
  have e2:((z*(a+1)^(top-x):Nat):Rat)=(z:Rat)*(((a+1)^(top-x):Nat):Rat):=by simp
  rw [e1,e2,←h1];grind
 ·rw [Nat.one_mul,show (a+1)^top=(a+1)^x*(a+1)^(top-x) by rw [←Nat.pow_add];congr 1;omega]
  exact Nat.mul_le_mul_right _ h2
theorem o_zd {e E:Nat} (he:e≤E):Gr (2^E) 1 (mkRat 1 (2^e)):=by
 refine ⟨2^(E-e),?_,by rw [Nat.one_mul];exact Nat.pow_le_pow_right (by decide) (by omega)⟩
 have e1:mkRat 1 (2^e)*((2^e:Nat):Rat)=1:=by
  rw [Rat.mkRat_eq_div]
  have:=Rat.div_mul_cancel (a:=((1:Int):Rat)) (o_wi (Nat.two_pow_pos e))
  simpa using this
 have e2:((2^E:Nat):Rat)=((2^e:Nat):Rat)*((2^(E-e):Nat):Rat):=by
  have:2^E=2^e*2^(E-e):=by rw [←Nat.pow_add];congr 1;omega
  rw [this];simp
 rw [e2,←Rat.mul_assoc,e1];grind
end
section
open Go.RowKit
theorem o_ze (d k:Nat) (hd:d≤8) (hk:k≤1023) (hu:k/2^d≤8192) :
  Eqn Tryz.prog o_h8 [.d (.int .i64 d),.d (.int .i64 k)] [] (.tup [.d (.agg [natW 1,.bool false,natW (2^(k/2^d)-1)]),.d (.int .i64 0)]) []:=by
 refine Eqn.pure o_ha (o_k0 _ _) ?_
 refine cc (c':=?z210) ?_ ?_
 case refine_1=>cbv<;>exact rfl
 refine G0 ?_;try with_reducible exact tt
 refine CallS.pf 1 1 ⟨3,_⟩ [.int .i64 k] (o_on d k) (by first | rfl | (simp;done)) (R0 ?_);try with_reducible exact tt
 have hw:=o_pv hd hk
 refine AW.cond rfl (fun h=>?_) (fun h=>?_)
 ·simp [hw] at h
 have hp:=o_om d k (by omega) (by omega)
 generalize k/2^d=u at hp hu ⊢
 refine G0 ?_;try with_reducible exact tt
 refine CallS.pu (hp) (R0 ?_);try with_reducible exact tt
 refine CallS.pu (o_mc u hu) (R0 ?_);try with_reducible exact tt

theorem o_zf (d k:Nat) (hd:d≤8) (hk:k≤1023) (hu:k/2^d≤8192):Eqn Tryz.prog o_h2 [.d (.int .i64 d),.d (.int .i64 k)] [] (.tup [.d (halfD (k/2^d)),.d (.int .i64 0)]) []:=by
 refine Eqn.pure o_h4 (o_k0 _ _) ?_
 have h:=o_ze d k hd hk hu
 refine cc (c':=?z211) ?_ ?_
 case refine_1=>cbv<;>exact rfl
 try simp only [halfD]
 generalize natW (2^(k/2^d)-1)=Z at *
 refine G0 ?_;try with_reducible exact tt
 refine CallS.pu (h) (R0 ?_);try with_reducible exact tt

theorem o_zg (s k:Nat) (h1:1≤s) (h2:s≤5) (hk:k≤1023) (hu:(placeY s k).shift≤8192):Eqn Tryz.prog o_hq [.d (.int .i64 s),.d (.int .i64 k)] [] (.tup [.d (halfD (placeY s k).shift),.d (.int .i64 0)]) []:=by
 refine Eqn.pure o_hs (o_k0 _ _) ?_
 have ha:=o_pu s k h1 h2 hk
 generalize placeY s k=P at *
 obtain ⟨px,ps,pv,pr⟩:=P
 simp only at hu
 have hh:=o_mc ps hu
 refine cc (c':=?z212) ?_ ?_
 case refine_1=>cbv<;>exact rfl
 try simp only [halfD,plD] at ha ⊢
 generalize natW (2^ps-1)=Z at *
 refine G0 ?_;try with_reducible exact tt
 refine CallS.pu (ha) (R0 ?_);try with_reducible exact tt
 refine AW.cond rfl (fun h=>?_) (fun h=>?_)
 ·simp at h
 refine G0 ?_;try with_reducible exact tt
 refine CallS.pu (hh) (R0 ?_);try with_reducible exact tt

theorem o_zh (s k:Nat) (h1:1≤s) (h2:s≤5) (hk:k≤1023) (hu:(placeY s k).shift≤8192):Eqn Tryz.prog o_hk [.d (.int .i64 s),.d (.int .i64 k)] [] (.tup [.d (halfD (placeY s k).shift),.d (.int .i64 0)]) []:=by
 refine Eqn.pure o_hm (o_k0 _ _) ?_
 have h:=o_zg s k h1 h2 hk hu
 refine cc (c':=?z213) ?_ ?_
 case refine_1=>cbv<;>exact rfl
 try simp only [halfD] at h ⊢
 generalize natW (2^(placeY s k).shift-1)=Z at *
 refine G0 ?_;try with_reducible exact tt
 refine CallS.pu (h) (R0 ?_);try with_reducible exact tt

theorem expB {k a w x:Nat} (h:GoodC k a w) (hk:k≠1) (hx:x≤1023):expOf k a x≤1100:=by
 unfold expOf
 split
 ·have:x/2^a≤x:=Nat.div_le_self _ _
  omega
 ·have:=h.1
  exact (o_sq (by omega) (by omega) hx).2.2.1
theorem o_zi {k a w:Nat} (h:GoodC k a w):topC w≤1023:=by
 have:=Nat.pow_le_pow_right (n:=2) (by omega) h.2.2
 unfold topC;omega
theorem o_zj {k a w x:Nat} (h:GoodC k a w) (hk:k=1) (hx:x≤topC w):1≤a∧a≤4096∧bitsN (a+1)*x≤8192:=by
 have h1:=h.1
 have h2:1≤a∧a≤4096∧bitsN (a+1)*(2^w-1)≤8192:=by omega
 exact ⟨h2.1,h2.2.1,Nat.le_trans (Nat.mul_le_mul_left _ hx) h2.2.2⟩
theorem o_zk {k a w x : Nat} (h : GoodC k a w) (hx : x ≤ topC w) : ∃ ti d g, MethOK Tryz.prog ti "tallymark/chain.chance" g ∧ kindD k a = .ifc ti d ∧ Eqn Tryz.prog g [.d d, .d (.int .i64 x)] [] (.tup [.d (rD (chP k a x)), .d (.int .i64 0)]) [] := by
 have ht:=o_zi h
 by_cases hk:k=1
 ·obtain ⟨h1,h2,h3⟩:=o_zj h hk hx
  subst hk
  refine ⟨_,_,_,o_v3,rfl,?_⟩
  rw [chP,if_pos rfl]
  exact o_v4 a x h1 h2 (by omega) h3
 ·have hs:=expB h hk (show x≤1023 by omega)
  have h':=h.1
  rw [chP,if_neg hk,←o_v2]
  rcases h' with ⟨e,-⟩ | ⟨rfl,h1⟩ | ⟨rfl,h1,h2⟩
  ·exact absurd e hk
  ·exact ⟨_,_,_,o_q9,rfl,o_zf a x h1 (by omega) (Nat.le_trans hs (by decide))⟩
  ·exact ⟨_,_,_,o_qa,rfl,o_zh a x h1 h2 (by omega) (Nat.le_trans hs (by decide))⟩
theorem o_zl {k a w x:Nat} (h:GoodC k a w) (hx:x<2^w-1):Eqn Tryz.prog o_a1 [.d (parD k a w),.d (.int .i64 x)] [] (.tup [.d (rD (chP k a x)),.d (.int .i64 0)]) []:=by
 refine Eqn.pure o_a3 (o_k0 _ _) ?_
 have h2:2^w-1≤1023:=o_zi h
 have w2:w≤10:=h.2.2
 have hc:=o_qo h
 have hat:=o_q7 k a w w2 x (by omega) (by omega) hc
 have ht:=o_q6 k a w w2 hc
 have hkd:=o_p3 k a w
 obtain ⟨ti,d,g,hm,hd,hg⟩:=o_zk (x:=x) h (by unfold topC;omega)
 rw [hd] at hkd
 rw [o_uu] at hg ⊢
 refine cc (c':=?z214) ?_ ?_
 case refine_1=>cbv<;>exact rfl
 try simp only [parD,rcD] at hat ht hg ⊢
 generalize 2^w-1=W at *
 have g1:¬x=W:=by omega
 have g2:¬(x:Int)=W:=by omega
 refine G1 (fs g1 g2) ?_;try with_reducible exact tt
 refine CallS.pf 2 1 ⟨3,_⟩ [.int .i64 x] (hat) (by first | rfl | (simp [g1,g2];done)) (R1 (fs g1 g2) ?_);try with_reducible exact tt
 refine CallS.pu (ht) (R1 (fs g1 g2) ?_);try with_reducible exact tt
 refine AW.cond rfl (fun h=>?_) (fun h=>?_)
 ·simp [g2] at h
 refine G0 ?_;try with_reducible exact tt
 refine CallS.pu (hkd) (R0 ?_);try with_reducible exact tt
 refine ⟨_,hm,?_⟩
 refine CallS.pu (hg) (R0 ?_);try with_reducible exact tt
theorem o_zm {k a w:Nat} (h:GoodC k a w):Eqn Tryz.prog o_a1 [.d (parD k a w),.d (.int .i64 (2^w-1:Nat))] [] (.tup [.d (.agg zR),.d (.int .i64 0)]) []:=by
 refine Eqn.pure o_a3 (o_k0 _ _) ?_
 have h2:2^w-1≤1023:=o_zi h
 have w2:w≤10:=h.2.2
 have hc:=o_qo h
 have hat:=o_q7 k a w w2 ((2^w-1:Nat):Int) (by omega) (Int.le_refl _) hc
 have ht:=o_q6 k a w w2 hc
 refine cc (c':=?z215) ?_ ?_
 case refine_1=>cbv<;>exact rfl
 try simp only [parD,zR] at hat ht ⊢
 generalize 2^w-1=W at *
 refine G0 ?_;try with_reducible exact tt
 refine CallS.pf 2 1 ⟨3,_⟩ [.int .i64 W] (hat) (by first | rfl | (simp;done)) (R0 ?_);try with_reducible exact tt
 refine CallS.pu (ht) (R0 ?_);try with_reducible exact tt
 refine A00 ?_;try with_reducible exact tt
theorem o_zn {k a w:Nat} (h:GoodC k a w) (s:St) (hs:s.1≤topC w) (x:Rat) (hx:RS x 1000) (X:D) (hX:Sub1 (.d X) (.d (rD x))) (hX2:∃x0 x1 x2,X = .agg [x0,x1,x2]) :
  Eqn Tryz.prog o_a4 [.d (parD k a w),.d (.agg (stD s)),.d X] [] (.mp 0) [spO (onQ w s x)]:=by
 have h15:=o_zi h
 have w2:w≤10:=h.2.2
 have hc:=o_qo h
 have ht:=o_q6 k a w w2 hc
 have hl:=o_v8 k a w
 rw [show 2^w-1=topC w from rfl] at ht
 obtain ⟨x0,x1,x2,rfl⟩:=hX2
 obtain ⟨s1,s2,s3⟩:=s
 simp only at hs
 unfold onQ
 generalize topC w=W at *
 by_cases e:s1=W
 ·subst e
  rw [if_pos rfl]
  refine Eqn.gen [3] o_a6 (by simp) (by simp) (by rfl) (by decide) (by simp) (by simp [spO]) ?_
  have hsu:=o_v1 (s1,s2,true)
  refine cc (c':=?z216) ?_ ?_
  case refine_1=>cbv<;>exact rfl
  try simp only [spO,stD,parD] at ht hl hsu ⊢
  generalize spD rcD [((s1,s2,true),1)]=L at *
  refine A00 ?_;try with_reducible exact tt
  refine CallS.pu (hl) (R0 ?_);try with_reducible exact tt
  refine CallS.pu (ht) (R0 ?_);try with_reducible exact tt
  refine A00 ?_;try with_reducible exact tt
  refine CallS.nX (hsu) (R0 ?_);try with_reducible exact tt
 ·rw [if_neg e]
  have hei:=o_uz x (s1+1,s2,s3) (s1,s2,s3) hx (by simp)
  replace hei:=hei.sub (Subs.cons hX (Subs.refl _))
  have e1:¬(s1:Int)=(W:Int):=by omega
  have ew:IntKind.i64.wrap ((s1:Int)+1)=((s1+1:Nat):Int):=by rw [w64 (by omega) (by omega)];omega
  refine Eqn.gen [4] o_a6 (by simp) (by simp) (by rfl) (by decide) (by simp) (by simp [spO]) ?_
  refine cc (c':=?z217) ?_ ?_
  case refine_1=>cbv<;>exact rfl
  try simp only [spO,stD,parD] at ht hl hei ⊢
  generalize spD rcD _=L at *
  refine A00 ?_;try with_reducible exact tt
  refine CallS.pu (hl) (R0 ?_);try with_reducible exact tt
  refine CallS.pu (ht) (R1 (fs e e1) ?_);try with_reducible exact tt
  refine A10 (fs e (fs e1 ew)) ?_;try with_reducible exact tt
  refine CallS.nX (hei) (R1 ew ?_);try with_reducible exact tt
theorem o_zo {k a w x:Nat} (h:GoodC k a w) (hx:x≤topC w):RS (chP k a x) 1000:=by
 have ht:=o_zi h
 unfold chP
 by_cases hk:k=1
 ·obtain ⟨h1,h2,h3⟩:=o_zj h hk hx
  rw [if_pos hk]
  exact (o_ql a x h1 h2 (by omega) h3).2.le (by omega)
 ·rw [if_neg hk]
  have he:=expB h hk (show x≤1023 by omega)
  exact RS.mk' (Nat.two_pow_pos _) (by show size 1≤1000;exact Nat.le_trans (by decide:size 1≤1) (by omega)) (Nat.le_trans (o_mb _ (by omega)) (by omega))
theorem o_zp {k a w:Nat} (h:GoodC k a w) (s:St) (hs:s.1≤topC w):Eqn Tryz.prog o_7s [.d (parD k a w),.d (.agg (stD s))] [] (.mp 0) [spO (stepQ (topC w) (chP k a) s)]:=by
 have h15:=o_zi h
 have hk4:¬(k:Int)=4:=by have:=h.1;omega
 have hk4':¬k=4:=by have:=h.1;omega
 have hl:=o_v8 k a w
 have hrs:=o_zo h (x:=s.1) hs
 have hst:stepQ (topC w) (chP k a) s=onQ w s (chP k a s.1):=rfl
 rw [hst]
 have key:∃x0 x1 x2:D,Sub1 (.d (.agg [x0,x1,x2])) (.d (rD (if s.1=topC w then 0 else chP k a s.1)))∧Eqn Tryz.prog o_a1 [.d (parD k a w),.d (.int .i64 s.1)] [] (.tup [.d (.agg [x0,x1,x2]),.d (.int .i64 0)]) []:=by
  by_cases e:s.1=topC w
  ·refine ⟨_,_,_,by rw [if_pos e];exact o_uv,?_⟩
   have:=o_zm h
   rw [show 2^w-1=s.1 from e.symm] at this
   exact this
  ·refine ⟨_,_,_,by rw [if_neg e];exact Sub1.refl _,o_zl h (by unfold topC at *;omega)⟩
 obtain ⟨x0,x1,x2,hX,hch⟩:=key
 have hon:Eqn Tryz.prog o_a4 [.d (parD k a w),.d (.agg (stD s)),.d (.agg [x0,x1,x2])] [] (.mp 0) [spO (onQ w s (chP k a s.1))]:=by
  by_cases e:s.1=topC w
  ·rw [if_pos e] at hX
   have:=o_zn h s hs 0 (show RS (0:Rat) 1000 from ⟨by decide,by decide⟩) _ hX ⟨_,_,_,rfl⟩
   have e2:onQ w s 0=onQ w s (chP k a s.1):=by unfold onQ;rw [if_pos e,if_pos e]
   rw [e2] at this
   exact this
  ·rw [if_neg e] at hX
   exact o_zn h s hs _ hrs _ hX ⟨_,_,_,rfl⟩
 refine Eqn.gen [3] o_7u (by simp) (by simp) (by rfl) (by decide) (by simp) (by simp [spO]) ?_
 refine cc (c':=?z218) ?_ ?_
 case refine_1=>cbv<;>exact rfl
 try simp only [spO,stD,parD] at hl hch hon ⊢
 generalize spD rcD _=L at *
 refine A10 (fs hk4 hk4') ?_;try with_reducible exact tt
 refine CallS.pu (hl) (R0 ?_);try with_reducible exact tt
 refine CallS.pu (hch) (R0 ?_);try with_reducible exact tt
 refine A00 ?_;try with_reducible exact tt
 refine CallS.nX (hon) (R0 ?_);try with_reducible exact tt
theorem o_zq {k a w:Nat} (h:GoodC k a w) (s:St) (hs:s.1≤topC w):Eqn Tryz.prog o_8a [.d (.agg (stD s)),.p 0 0] [⟨27,[.d (.int .i64 k),.d (.int .i64 a),.d (.int .i64 w)]⟩] (.mp 1) [⟨27,[.d (.int .i64 k),.d (.int .i64 a),.d (.int .i64 w)]⟩,spO (stepQ (topC w) (chP k a) s)]:=by
 refine Eqn.gen [0,2] o_8c (by simp) (by simp) (by rfl) (by decide) (by simp) (by simp [spO]) ?_
 have hst:=o_zp h s hs
 refine cc (c':=?z219) ?_ ?_
 case refine_1=>cbv<;>exact rfl
 try simp only [spO,stD,parD] at hst ⊢
 generalize spD rcD _=L at *
 refine A00 ?_;try with_reducible exact tt
 refine CallS.nX (hst) (R0 ?_);try with_reducible exact tt
end
section
open Go.RowKit
set_option maxHeartbeats 4000000 in
theorem o_zr {A B:Nat} (h:ThS A B) (s:St) (hs:okT A B s):Eqn Tryz.prog o_7s [.d (parD 4 A B),.d (.agg (stD s))] [] (.mp 0) [spO (stepT A B s)]:=by
 obtain ⟨h1,h2,h3⟩:=hs
 have hb9:=h.b
 have ha9:=h.a
 have hX:(A+1)*(B+1)≤80000:=by have:=h.n;omega
 have hhf:=o_yw s.2.1 (by omega)
 have hrs:RS (mkRat 1 (2^s.2.1)) 1000:=RS.mk' (Nat.two_pow_pos _) (Nat.le_trans (o_lv (by decide)) (by omega)) (by have:=o_yx s.2.1;omega)
 have hei:=o_uz (mkRat 1 (2^s.2.1)) (s.1+1,s.2) s hrs (fun e=>by have:=congrArg (fun x:St=>x.1) e;simp at this)
 have he:SpOK B (fun t=>t.1≤A+1∧t.2=s.2) (eitQ (mkRat 1 (2^s.2.1)) (s.1+1,s.2) s):=SpOK.eit ((o_yk _).up h2) ((o_yl _).up h2) ⟨by simp only;omega,rfl⟩ ⟨by omega,rfl⟩
 have hel:(eitQ (mkRat 1 (2^s.2.1)) (s.1+1,s.2) s).length≤2:=Nat.le_trans (o_wr _ _ _) (Nat.succ_le_succ (Nat.le_trans (o_wr _ _ _) (by simp)))
 have hJ:(A+1)*((B+1)*2)≤2000:=by rw [←Nat.mul_assoc];have:=h.n;omega
 have hcl:∀t:St,(t.1≤A+1∧t.2=s.2)→NextJ (downA A B) (2^((A+1)*(B-s.2.1))) ((A+1)*((B+1)*2)) t∧Eqn Tryz.prog o_9s [.d (.agg (stD t)),.p 0 0] [PO 4 A B] (.mp 1) [PO 4 A B,spO (downA A B t)]:=by
  intro t ht
  have e1:t.2.1+(B-s.2.1)=B:=by rw [ht.2];omega
  have e2:t.2.2=true→t.2.1=B:=by rw [ht.2];exact h3
  have hd:=SpOK.down (A:=A) (B:=B) (X:=A+1) (B-s.2.1) t e1 ht.1 e2
  refine ⟨hd.nextJ (o_z5 hd.uq hd.ky) (by omega),?_⟩
  have hdn:=o_z7 h (X:=A+1) (by omega) hX (B-s.2.1) t e1 ht.1 e2
  refine Eqn.gen [0,2] o_9u (by simp) (by simp) (by rfl) (by decide) (by simp) (by simp [spO,PO]) ?_
  refine cc (c':=?z220) ?_ ?_
  case refine_1=>cbv<;>exact rfl
  try simp only [spO,stD,parD,PO] at hdn ⊢
  generalize spD rcD _=L at *
  refine A00 ?_;try with_reducible exact tt
  refine CallS.nX (hdn) (R0 ?_);try with_reducible exact tt
 have hef:B+(A+1)*(B-s.2.1)≤90000:=by
  have:(A+1)*(B-s.2.1)≤(A+1)*(B+1):=Nat.mul_le_mul_left _ (by omega)
  have:=h.n
  omega
 have hti:=o_z1 (f:=o_9s) (next:=downA A B) (T1:=27) (x0:=.int .i64 4) (x1:=.int .i64 A) (x2:=.int .i64 B) (by decide) (fun t:St=>t.1≤A+1∧t.2=s.2) (eitQ (mkRat 1 (2^s.2.1)) (s.1+1,s.2) s) (2^((A+1)*(B-s.2.1))) (2^B) 1 2 ((A+1)*((B+1)*2)) (2*((A+1)*((B+1)*2))) he.uq (fun p hp=>he.ky p (List.mem_filter.1 hp).1) he.nz (Nat.le_trans (List.length_filter_le _ _) hel) (Nat.le_trans hel (by omega)) (Nat.two_pow_pos _) (Nat.le_refl _) he.gr (Nat.two_pow_pos _) hcl (o_z6 (by omega) (by omega) hef) (by omega) (Nat.mul_pos (by omega) (by omega))
 rw [show timesQ (downA A B) (eitQ (mkRat 1 (2^s.2.1)) (s.1+1,s.2) s)=stepT A B s from rfl] at hti
 refine Eqn.gen [4] o_7u (by simp) (by simp) (by rfl) (by decide) (by simp) (by simp [spO]) ?_
 obtain ⟨K,T,F⟩:=s
 simp only at h1 h2 h3 hhf hei hti
 have ew:IntKind.i64.wrap ((K:Int)+1)=((K+1:Nat):Int):=by rw [w64 (by omega) (by omega)];omega
 obtain ⟨H1,H2,H3,hH⟩:∃H1 H2 H3,rcD (mkRat 1 (2^T))=[H1,H2,H3]:=⟨_,_,_,rfl⟩
 refine cc (c':=?z221) ?_ ?_
 case refine_1=>cbv<;>exact rfl
 try simp only [spO,stD,parD,o_uu] at hei hti hhf ⊢
 generalize spD rcD (stepT _ _ _)=L2 at *
 generalize spD rcD (eitQ _ _ _)=L at *
 rw [hH] at hhf hei
 obtain ⟨K1,hK1⟩:∃K1,K1=K+1:=⟨_,rfl⟩
 rw [←hK1] at hei ew
 refine A10 ew ?_;try with_reducible exact tt
 refine CallS.pu (hhf) (R0 ?_);try with_reducible exact tt
 refine CallS.nX (hei) (R0 ?_);try with_reducible exact tt
 refine CallS.g [3,0] (hti) (R0 ?_);try with_reducible exact tt
def dstT (A B:Nat) (s:St) (n:Nat):Sp:=ofQ (stepT A B) s n
theorem o_zs {A B:Nat} (h:ThS A B):Eqn Tryz.prog o_81 [.d (parD 4 A B)] [] (.d (.int .i64 ((A+1)*(B+1):Nat))) []:=by
 refine Eqn.pure o_83 Plain.ok ?_
 have h1:=h.a
 have h2:=h.b
 have h3:=h.n
 have e1:IntKind.i64.wrap ((A:Int)+1)=((A+1:Nat):Int):=by rw [w64 (by omega) (by omega)];omega
 have e2:IntKind.i64.wrap ((B:Int)+1)=((B+1:Nat):Int):=by rw [w64 (by omega) (by omega)];omega
 have e3:IntKind.i64.wrap (((A+1:Nat):Int)*((B+1:Nat):Int))=(((A+1)*(B+1):Nat):Int):=by rw [←Int.natCast_mul];exact w64 (by omega) (by omega)
 refine cc (c':=?z222) ?_ ?_
 case refine_1=>cbv<;>exact rfl
 try simp only [parD]
 obtain ⟨A1,hA1⟩:∃A1,A1=A+1:=⟨_,rfl⟩
 obtain ⟨B1,hB1⟩:∃B1,B1=B+1:=⟨_,rfl⟩
 rw [←hA1] at e1 e3 ⊢
 rw [←hB1] at e2 e3 ⊢
 obtain ⟨M,hM⟩:∃M,M=A1*B1:=⟨_,rfl⟩
 rw [←hM] at e3 ⊢
 refine A10 (fs e1 (fs e2 e3)) ?_;try with_reducible exact tt
theorem o_zt {A B:Nat} {s:St} (hs:okT A B s):WellR 4 A B s.1 s.2.1 s.2.2:=.inl ⟨rfl,hs⟩
theorem ThS.good {A B:Nat} (h:ThS A B):GoodR 4 A B:=.inl ⟨rfl,h.gd⟩
theorem o_zu {A B:Nat} (h:ThS A B) {s:St} (hs:okT A B s):(stepT A B s).length≤2000:=by
 have h1:=SpOK.stepT hs
 have h2:=o_z5 h1.uq h1.ky
 rw [←Nat.mul_assoc] at h2
 have:=h.n
 omega
set_option maxHeartbeats 4000000 in
theorem o_zv {A B:Nat} (h:ThS A B) (s:St) (hs:okT A B s) (n:Nat) (hn:n≤64) (hcost:(n+1)*((A+1)*(B+1))≤512):Eqn Tryz.prog o_74 [.d (parD 4 A B),.d (.agg (stD s)),.d (.int .i64 n)] [] (.tup [.d (.sl (atQ (dstT A B s n)).length (spD rcD (atQ (dstT A B s n)))),.d (.int .i64 0)]) []:=by
 refine Eqn.pure o_76 Plain.ok ?_
 have hwr:=o_x0 h.good s (o_zt hs)
 have hst:=o_zs h
 have hsu:=o_v1 s
 have hof:∀i,SpOK (i*(B+(A+1)*B)) (okT A B) (ofQ (stepT A B) s i):=fun i=>SpOK.of (fun t (ht:okT A B t)=>SpOK.stepT ht) hs i
 have hE:(n+1)*(B+(A+1)*B)≤2000:=by
  have h1:B+(A+1)*B≤2*((A+1)*(B+1)):=by
   have h2:(A+1)*(B+1)=(A+1)*B+(A+1):=by rw [Nat.mul_add,Nat.mul_one]
   have h3:B≤(A+1)*B:=Nat.le_mul_of_pos_left B (by omega)
   omega
  have h2:=Nat.mul_le_mul_left (n+1) h1
  have h3:(n+1)*(2*((A+1)*(B+1)))=2*((n+1)*((A+1)*(B+1))):=by rw [Nat.mul_left_comm]
  omega
 have hlen:∀i,(dstT A B s i).length≤2000:=fun i=>by
  have h2:=o_z5 (hof i).uq (hof i).ky
  have h3:=Nat.mul_assoc (A+1) (B+1) 2
  have:=h.n
  show (ofQ (stepT A B) s i).length≤2000
  omega
 have hcl:∀t:St,okT A B t→NextJ (stepT A B) (2^(B+(A+1)*B)) 2000 t∧Eqn Tryz.prog o_8a [.d (.agg (stD t)),.p 0 0] [PO 4 A B] (.mp 1) [PO 4 A B,spO (stepT A B t)]:=by
  intro t ht
  refine ⟨(SpOK.stepT ht).nextJ (o_zu h ht) (by omega),?_⟩
  have hst:=o_zr h t ht
  refine Eqn.gen [0,2] o_8c (by simp) (by simp) (by rfl) (by decide) (by simp) (by simp [spO,PO]) ?_
  refine cc (c':=?z223) ?_ ?_
  case refine_1=>cbv<;>exact rfl
  try simp only [spO,stD,parD,PO] at hst ⊢
  generalize spD rcD _=L at *
  refine A00 ?_;try with_reducible exact tt
  refine CallS.nX (hst) (R0 ?_);try with_reducible exact tt
 have hti:∀i,i<n→Eqn Tryz.prog o_87 [.mp 0,.fn (.func o_8a) [.p 1 0]] [spO (dstT A B s i),PO 4 A B] (.mp 2) [spO (dstT A B s i),PO 4 A B,spO (dstT A B s (i+1))]:=fun i hi=>by
  have hef:i*(B+(A+1)*B)+(B+(A+1)*B)≤90000:=by
   have h1:(i+1)*(B+(A+1)*B)≤(n+1)*(B+(A+1)*B):=Nat.mul_le_mul_right _ (by omega)
   rw [Nat.add_mul,Nat.one_mul] at h1
   omega
  exact o_z1 (f:=o_8a) (next:=stepT A B) (T1:=27) (x0:=.int .i64 4) (x1:=.int .i64 A) (x2:=.int .i64 B) (by decide) (okT A B) (dstT A B s i) (2^(B+(A+1)*B)) (2^(i*(B+(A+1)*B))) 1 2000 2000 (2000*2000) (hof i).uq (fun p hp=>(hof i).ky p (List.mem_filter.1 hp).1) (hof i).nz (Nat.le_trans (List.length_filter_le _ _) (hlen i)) (Nat.le_trans (hlen i) (by omega)) (Nat.two_pow_pos _) (Nat.le_refl _) (hof i).gr (Nat.two_pow_pos _) hcl (o_z6 (by omega) (by omega) hef) (by omega) (by omega)
 have hat:Eqn Tryz.prog o_7v [.mp 0] [spO (dstT A B s n)] (.d (.sl (atQ (dstT A B s n)).length (spD rcD (atQ (dstT A B s n))))) [spO (dstT A B s n)] :=
  o_wg _ (hof n).uq (hof n).nz (Nat.le_trans (hlen n) (by omega)) ((hof n).rs (by
   have h1:n*(B+(A+1)*B)≤(n+1)*(B+(A+1)*B):=Nat.mul_le_mul_right _ (by omega)
   omega))
 have hd0:dstT A B s 0=[(s,1)]:=rfl
 rw [←hd0] at hsu
 have e1:IntKind.i64.wrap ((n:Int)+1)=((n+1:Nat):Int):=by rw [w64 (by omega) (by omega)];omega
 obtain ⟨W,hW⟩:∃W,W=(A+1)*(B+1):=⟨_,rfl⟩
 rw [←hW] at hst hcost
 have e2:IntKind.i64.wrap (((n+1:Nat):Int)*(W:Int))=(((n+1)*W:Nat):Int):=by rw [←Int.natCast_mul];exact w64 (by omega) (by omega)
 obtain ⟨M,hM⟩:∃M,M=(n+1)*W:=⟨_,rfl⟩
 rw [←hM] at e2 hcost
 obtain ⟨n1,hn1⟩:∃n1,n1=n+1:=⟨_,rfl⟩
 rw [←hn1] at e1 e2
 have g1:¬(n:Int)<0:=by omega
 have g2:¬(64:Int)<n:=by omega
 have g3:¬(512:Int)<M:=by omega
 have g4:¬512<M:=by omega
 have g5:¬64<n:=by omega
 generalize hA:atQ (dstT A B s n)=AA at *
 refine cc (c':=?z224) ?_ ?_
 case refine_1=>cbv<;>exact rfl
 try simp only [stD,parD,spO,PO] at hwr hst hsu hti hat ⊢
 refine A00 ?_;try with_reducible exact tt
 refine CallS.pf 2 3 ⟨29,[.d (.int .i64 s.1),.d (.int .i64 s.2.1),.d (.bool s.2.2)]⟩ [.int .i64 s.1,.int .i64 s.2.1,.bool s.2.2] (hwr) (by first | rfl | (simp [g1,g2,g5];done)) (R1 (fs g1 (fs g2 g5)) ?_);try with_reducible exact tt
 refine A10 (fs g1 (fs g2 (fs g5 e1))) ?_;try with_reducible exact tt
 refine CallS.pu (hst) (R1 (fs e2 (fs g3 g4)) ?_);try with_reducible exact tt
 refine A10 (fs e2 (fs g3 g4)) ?_;try with_reducible exact tt
 refine CallS.nX (hsu) (R0 ?_);try with_reducible exact tt
 refine AW.loopG (α:=Nat) (fun i=>setS (List.replicate 43 .junk) [(3,.p 0 0),(9,.mp 3),(34,.d (.int .i64 n)),(35,.d (.int .i64 (i:Nat)))]) (fun i=>[some ⟨27,[.d (.int .i64 (4:Nat)),.d (.int .i64 A),.d (.int .i64 B)]⟩,none,none,some ⟨1000391,(spD rcD (dstT A B s i)).map .d⟩]) (fun i=>i≤n) (fun i=>n-i) 0 ?_ (Nat.zero_le _) ?_ ?_ ?_
 ·intro i hi;simp
 ·simp
 ·simp
 rintro i hi
 simp
 by_cases hi2:i<n
 ·have hi3:(i:Int)<n:=by omega
  have ew:IntKind.i64.wrap ((i:Int)+1)=((i+1:Nat):Int):=by rw [w64 (by omega) (by omega)];omega
  have ht:=hti i (by omega)
  refine A10 (fs hi2 hi3) ?_;try with_reducible exact tt
  refine CallS.g [3,0] (ht) (R1 ew ?_);try with_reducible exact tt
  refine A10 ew ?_;try with_reducible exact tt
  refine ⟨i+1,3,4,by omega,by omega,by omega,?_,?_⟩
  ·simp [swT,swH,sw,Ob.sw,V.ren,V.rens]
  ·simp [swT,swH,sw,Ob.sw,V.ren,V.rens]
 ·have h2:i=n:=by omega
  subst h2
  refine A00 ?_;try with_reducible exact tt
  refine CallS.g [3] (hat) (R0 ?_);try with_reducible exact tt
  done
end
section
open Go.RowKit
theorem o_zw {D C M:Nat} {out:Sp} (h:∀p∈out,Gr D C p.2) {s:St} {x:Rat} (hx:Gr D M x):∀p∈addQ out s x,Gr D (C+M) p.2:=by
 intro p hp
 rcases o_uj hp with hp | rfl
 ·exact (h p hp).le (by omega)
 ·exact (o_wn h _).add hx
theorem o_zx {D C:Nat} {f:Bool} {x:St×Rat} {B out:Sp} (ho:∀p∈out,Gr D C p.2) (hB:∀y∈B,Gr D 1 (x.2*y.2)):∀j,j≤B.length→∀p∈joI f x B out j,Gr D (C+j) p.2
 | 0,_=>fun p hp=>ho p (by simpa [joI] using hp)
 | j+1,hj=>by
  rw [o_yq f x B out j hj]
  exact o_zw (o_zx ho hB j (by omega)) (hB _ (List.getElem_mem _))
theorem o_zy {D:Nat} {f:Bool} {A B:Sp} (hAB:∀x∈A,∀y∈B,Gr D 1 (x.2*y.2)):∀i,i≤A.length→∀p∈joO f A B i,Gr D (i*B.length) p.2
 | 0,_=>fun p hp=>by simp [joO] at hp
 | i+1,hi=>by
  rw [o_yr f A B i hi,Nat.add_mul,Nat.one_mul]
  exact o_zx (o_zy hAB i (by omega)) (hAB _ (List.getElem_mem _)) _ (Nat.le_refl _)
theorem o_zz (s:St):∀n,(thinQ s n).length≤s.1+1
 | n=>by
  have h:=SpOK.thin s n
  have h1:((thinQ s n).map (·.1)).length≤((List.range (s.1+1)).map fun k=>((k,s.2.1+n,s.2.2):St)).length:=by
   refine List.Nodup.length_le_of_subset h.uq fun t ht=>?_
   obtain ⟨p,hp,rfl⟩:=List.mem_map.1 ht
   obtain ⟨h1,h2⟩:=h.ky p hp
   refine List.mem_map.2 ⟨p.1.1,List.mem_range.2 (by omega),?_⟩
   rw [←h2]
  simpa using h1
set_option maxHeartbeats 4000000 in
theorem o_100 (s:St) (z:Int) (n:Nat) (hz:max 0 z=n) (hK:s.1≤900) (hT:s.2.1+n≤1000) (hKn:(n+1)*s.1≤80000):Eqn Tryz.prog o_at [.d (.agg (stD s)),.d (.int .i64 z)] [] (.mp 0) [spO (thinQ s n)]:=by
 have hsu:=o_v1 s
 rw [show [(s,(1:Rat))]=thinQ s 0 from rfl] at hsu
 have hti:∀i,i<n→Eqn Tryz.prog o_87 [.mp 0,.fn (.func o_cq) []] [spO (thinQ s i)] (.mp 1) [spO (thinQ s i),spO (thinQ s (i+1))]:=fun i hi=>by
  have h:=SpOK.thin s i
  have hl:=o_zz s i
  have hcl:∀t:St,(t.1≤s.1∧t.2=(s.2.1+i,s.2.2))→NextJ binQ (2^s.1) 1000 t∧Eqn Tryz.prog o_cq [.d (.agg (stD t))] [] (.mp 0) [spO (binQ t)]:=fun t ht =>
   ⟨((SpOK.bin t).mono ht.1 fun _ h=>h).nextJ (Nat.le_trans (o_z3 t _) (by omega)) (by omega),o_z0 t (by omega) (by rw [ht.2];simp only;omega)⟩
  have hef:i*s.1+s.1≤90000:=by
   have h1:(i+1)*s.1≤(n+1)*s.1:=Nat.mul_le_mul_right _ (by omega)
   rw [Nat.add_mul,Nat.one_mul] at h1
   omega
  exact o_z2 (f:=o_cq) (next:=binQ) (fun t:St=>t.1≤s.1∧t.2=(s.2.1+i,s.2.2)) (thinQ s i) (2^s.1) (2^(i*s.1)) 1 1000 1000 (1000*1000) h.uq (fun p hp=>h.ky p (List.mem_filter.1 hp).1) h.nz (Nat.le_trans (List.length_filter_le _ _) (Nat.le_trans hl (by omega))) (Nat.le_trans hl (by omega)) (Nat.two_pow_pos _) (Nat.le_refl _) h.gr (Nat.two_pow_pos _) hcl (o_z6 (by omega) (by omega) hef) (by omega) (by omega)
 refine Eqn.gen [1] o_av (by simp) (by simp) (by rfl) (by decide) (by simp) (by simp [spO]) ?_
 refine cc (c':=?z225) ?_ ?_
 case refine_1=>cbv<;>exact rfl
 try simp only [spO,stD] at hsu hti ⊢
 refine A00 ?_;try with_reducible exact tt
 refine CallS.nX (hsu) (R1 hz ?_);try with_reducible exact tt
 refine A10 hz ?_;try with_reducible exact tt
 refine AW.loopG (α:=Nat) (fun i=>setS (List.replicate 16 .junk) [(1,.d (.int .i64 z)),(2,.p 0 0),(5,.mp 1),(9,.d (.int .i64 n)),(10,.d (.int .i64 (i:Nat)))]) (fun i=>[some ⟨29,[.d (.int .i64 s.1),.d (.int .i64 s.2.1),.d (.bool s.2.2)]⟩,some ⟨1000391,(spD rcD (thinQ s i)).map .d⟩]) (fun i=>i≤n) (fun i=>n-i) 0 ?_ (Nat.zero_le _) ?_ ?_ ?_
 ·intro i hi;simp
 ·simp
 ·simp
 rintro i hi
 simp
 by_cases hi2:i<n
 ·have hi3:(i:Int)<n:=by omega
  have ew:IntKind.i64.wrap ((i:Int)+1)=((i+1:Nat):Int):=by rw [w64 (by omega) (by omega)];omega
  have ht:=hti i hi2
  refine A10 (fs hi2 hi3) ?_;try with_reducible exact tt
  refine CallS.g [1] (ht) (R1 ew ?_);try with_reducible exact tt
  refine A10 ew ?_;try with_reducible exact tt
  refine ⟨i+1,1,2,by omega,by omega,by omega,?_,?_⟩
  ·simp [swT,swH,sw,Ob.sw,V.ren,V.rens]
  ·simp [swT,swH,sw,Ob.sw,V.ren,V.rens]
 ·have h2:i=n:=by omega
  subst h2
  refine A00 ?_;try with_reducible exact tt
  done
end
section
open Go.RowKit
def gd15 (k a w:Int):Prop:=1≤w∧w≤10∧(k=1∧1≤a∧a≤4096∧bitsN (a.toNat+1)*(2^w.toNat-1)≤8192∨k=2∧0≤a∧a≤8∨k=3∧1≤a∧a≤5)
theorem o_101 {k a w:Int} (h:gd15 k a w):∃K A W:Nat,k=K∧a=A∧w=W∧GoodC K A W:=by
 obtain ⟨w1,w2,h⟩:=h
 refine ⟨k.toNat,a.toNat,w.toNat,by omega,by omega,by omega,?_,by omega,by omega⟩
 rcases h with ⟨h1,h2,h3,h4⟩ | ⟨h1,h2,h3⟩ | ⟨h1,h2,h3⟩
 ·exact .inl ⟨by omega,by omega,by omega,h4⟩
 ·exact .inr (.inl ⟨by omega,by omega⟩)
 ·exact .inr (.inr ⟨by omega,by omega,by omega⟩)
theorem o_102 (k a w:Int) (hn:¬gd15 k a w):Eqn Tryz.prog o_dh [.d (.agg [.int .i64 k,.int .i64 a,.int .i64 w])] [] (.d (.int .i64 10)) []:=by
 have hk:=o_p3 k a w
 by_cases hw:1≤w∧w≤10
 ·obtain ⟨W,rfl⟩:∃W:Nat,w=W:=⟨w.toNat,by omega⟩
  obtain ⟨w1,w2⟩:=hw
  by_cases h1:k=1
  ·subst h1
   by_cases ha:1≤a∧a≤4096
   ·obtain ⟨A,rfl⟩:∃A:Nat,a=A:=⟨a.toNat,by omega⟩
    by_cases hm:bitsN (A+1)*(2^W-1)≤8192
    ·exact absurd ⟨w1,w2,.inl ⟨rfl,ha.1,ha.2,by simpa using hm⟩⟩ hn
    ·exact o_ta A W (by omega) (by omega) (by omega) (by omega) hm
   ·skip
    rw [kindD,if_pos rfl] at hk
    have hg:=o_p1 a
    rw [show decide (1≤a∧a≤4096)=false by simp;omega] at hg
    refine Eqn.pure o_dj (o_5e _) ?_
    refine cc (c':=?z226) ?_ ?_
    case refine_1=>cbv<;>exact rfl
    refine A00 ?_;try with_reducible exact tt
    refine CallS.pu (hk) (R0 ?_);try with_reducible exact tt
    refine ⟨_,o_oy,?_⟩
    refine CallS.pu (hg) (R0 ?_);try with_reducible exact tt
    refine A00 ?_;try with_reducible exact tt
  ·by_cases h2:k=2
   ·subst h2
    by_cases ha:0≤a∧a≤8
    ·obtain ⟨A,rfl⟩:∃A:Nat,a=A:=⟨a.toNat,by omega⟩
     exact absurd ⟨w1,w2,.inr (.inl ⟨rfl,ha.1,ha.2⟩)⟩ hn
    ·skip
     rw [kindD,if_neg (by omega),if_pos rfl] at hk
     have hg:=o_p2 a
     rw [show decide (0≤a∧a≤8)=false by simp;omega] at hg
     refine Eqn.pure o_dj (o_5e _) ?_
     refine cc (c':=?z227) ?_ ?_
     case refine_1=>cbv<;>exact rfl
     refine A00 ?_;try with_reducible exact tt
     refine CallS.pu (hk) (R0 ?_);try with_reducible exact tt
     refine ⟨_,o_oz,?_⟩
     refine CallS.pu (hg) (R0 ?_);try with_reducible exact tt
     refine A00 ?_;try with_reducible exact tt
   ·by_cases h3:k=3
    ·subst h3
     by_cases ha:1≤a∧a≤5
     ·obtain ⟨A,rfl⟩:∃A:Nat,a=A:=⟨a.toNat,by omega⟩
      exact absurd ⟨w1,w2,.inr (.inr ⟨rfl,ha.1,ha.2⟩)⟩ hn
     ·skip
      rw [kindD,if_neg (by omega),if_neg (by omega),if_pos rfl] at hk
      have hg:=o_q3 a
      rw [show decide (1≤a∧a≤5)=false by simp;omega] at hg
      refine Eqn.pure o_dj (o_5e _) ?_
      refine cc (c':=?z228) ?_ ?_
      case refine_1=>cbv<;>exact rfl
      refine A00 ?_;try with_reducible exact tt
      refine CallS.pu (hk) (R0 ?_);try with_reducible exact tt
      refine ⟨_,o_p0,?_⟩
      refine CallS.pu (hg) (R0 ?_);try with_reducible exact tt
      refine A00 ?_;try with_reducible exact tt
    ·rw [kindD,if_neg h1,if_neg h2,if_neg h3] at hk
     exact o_tb hk
 ·by_cases h1:k=1
  ·subst h1
   rw [kindD,if_pos rfl] at hk
   have hg:=o_p1 a
   refine Eqn.pure o_dj (o_5e _) ?_
   refine cc (c':=?z229) ?_ ?_
   case refine_1=>cbv<;>exact rfl
   generalize decide (1≤a∧a≤4096)=g at hg
   cases g
   ·refine A00 ?_;try with_reducible exact tt
    refine CallS.pu (hk) (R0 ?_);try with_reducible exact tt
    refine ⟨_,o_oy,?_⟩
    refine CallS.pu (hg) (R0 ?_);try with_reducible exact tt
    refine A00 ?_;try with_reducible exact tt
   ·by_cases w1:w<1
    ·refine A00 ?_;try with_reducible exact tt
     refine CallS.pu (hk) (R1 w1 ?_);try with_reducible exact tt
     refine ⟨_,o_oy,?_⟩
     refine CallS.pu (hg) (R1 w1 ?_);try with_reducible exact tt
     refine A10 w1 ?_;try with_reducible exact tt
    ·have w2:10<w:=by omega
     refine A00 ?_;try with_reducible exact tt
     refine CallS.pu (hk) (R1 (fs w1 w2) ?_);try with_reducible exact tt
     refine ⟨_,o_oy,?_⟩
     refine CallS.pu (hg) (R1 (fs w1 w2) ?_);try with_reducible exact tt
     refine A10 (fs w1 w2) ?_;try with_reducible exact tt
  ·by_cases h2:k=2
   ·subst h2
    rw [kindD,if_neg (by omega),if_pos rfl] at hk
    have hg:=o_p2 a
    refine Eqn.pure o_dj (o_5e _) ?_
    refine cc (c':=?z230) ?_ ?_
    case refine_1=>cbv<;>exact rfl
    generalize decide (0≤a∧a≤8)=g at hg
    cases g
    ·refine A00 ?_;try with_reducible exact tt
     refine CallS.pu (hk) (R0 ?_);try with_reducible exact tt
     refine ⟨_,o_oz,?_⟩
     refine CallS.pu (hg) (R0 ?_);try with_reducible exact tt
     refine A00 ?_;try with_reducible exact tt
    ·by_cases w1:w<1
     ·refine A00 ?_;try with_reducible exact tt
      refine CallS.pu (hk) (R1 w1 ?_);try with_reducible exact tt
      refine ⟨_,o_oz,?_⟩
      refine CallS.pu (hg) (R1 w1 ?_);try with_reducible exact tt
      refine A10 w1 ?_;try with_reducible exact tt
     ·have w2:10<w:=by omega
      refine A00 ?_;try with_reducible exact tt
      refine CallS.pu (hk) (R1 (fs w1 w2) ?_);try with_reducible exact tt
      refine ⟨_,o_oz,?_⟩
      refine CallS.pu (hg) (R1 (fs w1 w2) ?_);try with_reducible exact tt
      refine A10 (fs w1 w2) ?_;try with_reducible exact tt
   ·by_cases h3:k=3
    ·subst h3
     rw [kindD,if_neg (by omega),if_neg (by omega),if_pos rfl] at hk
     have hg:=o_q3 a
     refine Eqn.pure o_dj (o_5e _) ?_
     refine cc (c':=?z231) ?_ ?_
     case refine_1=>cbv<;>exact rfl
     generalize decide (1≤a∧a≤5)=g at hg
     cases g
     ·refine A00 ?_;try with_reducible exact tt
      refine CallS.pu (hk) (R0 ?_);try with_reducible exact tt
      refine ⟨_,o_p0,?_⟩
      refine CallS.pu (hg) (R0 ?_);try with_reducible exact tt
      refine A00 ?_;try with_reducible exact tt
     ·by_cases w1:w<1
      ·refine A00 ?_;try with_reducible exact tt
       refine CallS.pu (hk) (R1 w1 ?_);try with_reducible exact tt
       refine ⟨_,o_p0,?_⟩
       refine CallS.pu (hg) (R1 w1 ?_);try with_reducible exact tt
       refine A10 w1 ?_;try with_reducible exact tt
      ·have w2:10<w:=by omega
       refine A00 ?_;try with_reducible exact tt
       refine CallS.pu (hk) (R1 (fs w1 w2) ?_);try with_reducible exact tt
       refine ⟨_,o_p0,?_⟩
       refine CallS.pu (hg) (R1 (fs w1 w2) ?_);try with_reducible exact tt
       refine A10 (fs w1 w2) ?_;try with_reducible exact tt
    ·rw [kindD,if_neg h1,if_neg h2,if_neg h3] at hk
     exact o_tb hk
theorem o_103 (a b:Int) (hn:¬(1≤a∧a≤1023∧0≤b∧b≤20)):Eqn Tryz.prog o_de [.d (.agg [.int .i64 a,.int .i64 b])] [] (.d (.int .i64 10)) []:=by
 by_cases h1:a<1
 ·refine Eqn.pure o_dg Plain.ok ?_
  refine cc (c':=?z232) ?_ ?_
  case refine_1=>cbv<;>exact rfl
  refine A10 h1 ?_;try with_reducible exact tt
 ·by_cases h2:1023<a
  ·refine Eqn.pure o_dg Plain.ok ?_
   refine cc (c':=?z233) ?_ ?_
   case refine_1=>cbv<;>exact rfl
   refine A10 (fs h1 h2) ?_;try with_reducible exact tt
  ·by_cases h3:b<0
   ·refine Eqn.pure o_dg Plain.ok ?_
    refine cc (c':=?z234) ?_ ?_
    case refine_1=>cbv<;>exact rfl
    refine A10 (fs h1 (fs h2 h3)) ?_;try with_reducible exact tt
   ·by_cases h4:20<b
    ·refine Eqn.pure o_dg Plain.ok ?_
     refine cc (c':=?z235) ?_ ?_
     case refine_1=>cbv<;>exact rfl
     refine A10 (fs h1 (fs h2 (fs h3 h4))) ?_;try with_reducible exact tt
    ·exact absurd ⟨by omega,by omega,by omega,by omega⟩ hn
theorem o_104 (a b:Int) (hn:¬(1≤a∧a≤1023∧0≤b∧b≤20)):Eqn Tryz.prog o_8g [.d (.agg [.int .i64 a,.int .i64 b])] [] (.d (.bool false)) []:=by
 refine Eqn.pure o_8i Plain.ok ?_
 refine cc (c':=?z236) ?_ ?_
 case refine_1=>cbv<;>exact rfl
 by_cases g1:1≤a
 ·by_cases g2:a≤1023
  ·by_cases g3:0≤b
   ·have g4:¬b≤20:=fun h=>hn ⟨g1,g2,g3,h⟩
    refine A10 (fs g1 (fs g2 (fs g3 g4))) ?_;try with_reducible exact tt
   ·refine A10 (fs g1 (fs g2 g3)) ?_;try with_reducible exact tt
  ·refine A10 (fs g1 g2) ?_;try with_reducible exact tt
 ·refine A10 g1 ?_;try with_reducible exact tt
theorem o_105 (k a w:Int) (hn:¬gd15 k a w):Eqn Tryz.prog o_8j [.d (.agg [.int .i64 k,.int .i64 a,.int .i64 w])] [] (.d (.bool false)) []:=by
 refine Eqn.pure o_8l Plain.ok ?_
 by_cases g1:w<1
 ·refine cc (c':=?z237) ?_ ?_
  case refine_1=>cbv<;>exact rfl
  refine A10 g1 ?_;try with_reducible exact tt
 by_cases g2:10<w
 ·refine cc (c':=?z238) ?_ ?_
  case refine_1=>cbv<;>exact rfl
  refine A10 (fs g1 g2) ?_;try with_reducible exact tt
 obtain ⟨W,rfl⟩:∃W:Nat,w=W:=⟨w.toNat,by omega⟩
 have hs:=o_sz W (by omega)
 have hp:1≤2^W:=Nat.one_le_two_pow
 have hp2:2^W≤2^10:=Nat.pow_le_pow_right (by omega) (by omega)
 unfold gd15 at hn
 simp only [Int.toNat_natCast] at hn
 refine cc (c':=?z239) ?_ ?_
 case refine_1=>cbv<;>exact rfl
 generalize 2^W=S at *
 have e:IntKind.i64.wrap ((S:Int)-1)=((S-1:Nat):Int):=by rw [w64 (by omega) (by omega)];omega
 by_cases k1:k=1
 ·subst k1
  by_cases g3:a<1
  ·refine A10 (fs g1 g2) ?_;try with_reducible exact tt
   refine CallS.pu (hs) (R1 e ?_);try with_reducible exact tt
   refine A10 g3 ?_;try with_reducible exact tt
  by_cases g4:4096<a
  ·refine A10 (fs g1 g2) ?_;try with_reducible exact tt
   refine CallS.pu (hs) (R1 e ?_);try with_reducible exact tt
   refine A10 (fs g3 g4) ?_;try with_reducible exact tt
  obtain ⟨A,rfl⟩:∃A:Nat,a=A:=⟨a.toNat,by omega⟩
  have hm:¬bitsN (A+1)*(S-1)≤8192:=fun h=>hn ⟨by omega,by omega,.inl ⟨rfl,by omega,by omega,by simpa using h⟩⟩
  have e2:IntKind.i64.wrap ((A:Int)+1)=((A+1:Nat):Int):=by rw [w64 (by omega) (by omega)];omega
  clear hn
  refine A10 (fs g1 g2) ?_;try with_reducible exact tt
  refine CallS.pu (hs) (R1 e ?_);try with_reducible exact tt
  refine A10 (fs g3 (fs g4 e2)) ?_;try with_reducible exact tt
  have hb:bitsN (A+1)≤13:=o_ko (by omega)
  refine AW.loopT (α:=Nat×Nat) 1 (fun s=>[(4,.d (.int .i64 (s.2:Nat))),(5,.d (.int .i64 (s.1:Nat)))]) (fun s=>[]) (fun s=>s.1≤A+1∧bitsN s.1+s.2=bitsN (A+1)) (fun s=>s.1) (A+1,0) ?_ ?_ ⟨Nat.le_refl _,rfl⟩ ?_ ?_ ?_
  ·simp
  ·simp
  ·simp
  ·simp
  rintro ⟨m,c⟩ ⟨hm',hc⟩
  simp only at hm' hc
  simp
  by_cases h0:0<m
  ·have h0':(0:Int)<m:=by omega
   have hh:=o_sy h0
   have e1:(m:Int).tdiv 2=((m/2:Nat):Int):=by rw [Int.tdiv_eq_ediv_of_nonneg (by omega)];omega
   have e2:IntKind.i64.wrap ((c:Int)+1)=((c+1:Nat):Int):=by rw [w64 (by omega) (by omega)];omega
   have hlt:m/2<m:=by omega
   have e3:IntKind.i64.wrap ((m/2:Nat):Int)=((m/2:Nat):Int):=w64 (by omega) (by omega)
   generalize m/2=q at *
   refine A10 (fs h0 (fs h0' (fs e1 (fs e2 e3)))) ?_;try with_reducible exact tt
   exact ⟨q,c+1,⟨by omega,by omega⟩,hlt,Sub1.int (by omega),Sub1.refl _⟩
  ·have hz:m=0:=by omega
   subst hz
   have hcb:c=bitsN (A+1):=by
    have:bitsN 0=0:=Nat.le_zero.1 (o_ko (by decide))
    omega
   have hcS:¬c*(S-1)≤8192:=by rw [hcb];exact hm
   have hcM:c*(S-1)≤13*1024:=Nat.mul_le_mul (by omega) (by omega)
   have hcI:¬((c:Int)*((S-1:Nat):Int))≤8192:=by
    rw [←Int.natCast_mul];omega
   have e4:IntKind.i64.wrap ((c:Int)*((S-1:Nat):Int))=(c:Int)*((S-1:Nat):Int):=w64 (by rw [←Int.natCast_mul];omega) (by rw [←Int.natCast_mul];omega)
   generalize S-1=V at *
   refine A10 (fs e4 hcI) ?_;try with_reducible exact tt
 by_cases k2:k=2
 ·subst k2
  by_cases g3:0≤a
  ·have g4:¬a≤8:=fun h=>hn ⟨by omega,by omega,.inr (.inl ⟨rfl,g3,h⟩)⟩
   refine A10 (fs g1 g2) ?_;try with_reducible exact tt
   refine CallS.pu (hs) (R1 e ?_);try with_reducible exact tt
   refine A10 (fs g3 g4) ?_;try with_reducible exact tt
  ·refine A10 (fs g1 g2) ?_;try with_reducible exact tt
   refine CallS.pu (hs) (R1 e ?_);try with_reducible exact tt
   refine A10 g3 ?_;try with_reducible exact tt
 by_cases k3:k=3
 ·subst k3
  by_cases g3:1≤a
  ·have g4:¬a≤5:=fun h=>hn ⟨by omega,by omega,.inr (.inr ⟨rfl,g3,h⟩)⟩
   refine A10 (fs g1 g2) ?_;try with_reducible exact tt
   refine CallS.pu (hs) (R1 e ?_);try with_reducible exact tt
   refine A10 (fs g3 g4) ?_;try with_reducible exact tt
  ·refine A10 (fs g1 g2) ?_;try with_reducible exact tt
   refine CallS.pu (hs) (R1 e ?_);try with_reducible exact tt
   refine A10 g3 ?_;try with_reducible exact tt
 refine A10 (fs g1 g2) ?_;try with_reducible exact tt
 refine CallS.pu (hs) (R1 (fs e (fs k1 (fs k2 k3))) ?_);try with_reducible exact tt
 refine A10 (fs k1 (fs k2 k3)) ?_;try with_reducible exact tt
theorem o_106 (k a b:Int):(∃K A B:Nat,k=K∧a=A∧b=B∧GoodR K A B)∨(Eqn Tryz.prog o_ab [.d (parD k a b)] [] (.d (.int .i64 10)) []∧Eqn Tryz.prog o_7a [.d (parD k a b)] [] (.d (.bool false)) []):=by
 by_cases h4:k=4
 ·subst h4
  by_cases h:1≤a∧a≤1023∧0≤b∧b≤20
  ·exact .inl ⟨4,a.toNat,b.toNat,rfl,by omega,by omega,.inl ⟨rfl,by omega,by omega,by omega⟩⟩
  ·right
   have h2:=o_103 a b h
   have h3:=o_104 a b h
   have h1:=o_qq 4 a b
   constructor
   ·refine Eqn.pure o_ad Plain.ok ?_
    refine cc (c':=?z240) ?_ ?_
    case refine_1=>cbv<;>exact rfl
    try simp only [parD,tpD] at h1 h2 ⊢
    refine A00 ?_;try with_reducible exact tt
    refine CallS.pu (h1) (R0 ?_);try with_reducible exact tt
    refine CallS.pu (h2) (R0 ?_);try with_reducible exact tt
   ·refine Eqn.pure o_7c Plain.ok ?_
    refine cc (c':=?z241) ?_ ?_
    case refine_1=>cbv<;>exact rfl
    try simp only [parD]
    refine A00 ?_;try with_reducible exact tt
    refine CallS.pu (h3) (R0 ?_);try with_reducible exact tt
 ·by_cases h:gd15 k a b
  ·obtain ⟨K,A,W,rfl,rfl,rfl,hG⟩:=o_101 h
   exact .inl ⟨K,A,W,rfl,rfl,rfl,.inr ⟨by omega,hG⟩⟩
  ·right
   have h2:=o_102 k a b h
   have h3:=o_105 k a b h
   have h1:=o_qr k a b
   constructor
   ·refine Eqn.pure o_ad Plain.ok ?_
    refine cc (c':=?z242) ?_ ?_
    case refine_1=>cbv<;>exact rfl
    try simp only [parD] at h1 h2 ⊢
    refine A10 h4 ?_;try with_reducible exact tt
    refine CallS.pu (h1) (R0 ?_);try with_reducible exact tt
    refine CallS.pu (h2) (R0 ?_);try with_reducible exact tt
   ·refine Eqn.pure o_7c Plain.ok ?_
    refine cc (c':=?z243) ?_ ?_
    case refine_1=>cbv<;>exact rfl
    try simp only [parD]
    refine A10 h4 ?_;try with_reducible exact tt
    refine CallS.pu (h3) (R0 ?_);try with_reducible exact tt
end
section
structure CP (α:Type) where
 O:List Bool→Option (α×Nat)
 D:List Bool→(α→Rat)→Rat
 o2:∀x a c,O x=some (a,c)→c≤x.length∧∀b,O (x++[b])=some (a,c)
 o3:∀x b a c,O x=none→O (x++[b])=some (a,c)→c=x.length+1
 d1:∀x a c g,O x=some (a,c)→D x g=g a
 d2:∀x g,O x=none→2*D x g=D (x++[false]) g+D (x++[true]) g
 d3:∀x g,(∀a,0≤g a∧g a≤1)→0≤D x g∧D x g≤1
namespace CP
def E {α:Type} (f:CP α) (g:α→Rat):Rat:=f.D [] g
def pure {α:Type} (a:α):CP α where
 O _:=some (a,0)
 D _ g:=g a
 o2 x a' c h:=by cases h;exact ⟨Nat.zero_le _,fun _=>rfl⟩
 o3 x b a' c h:=by cases h
 d1 x a' c g h:=by cases h;rfl
 d2 x g h:=by cases h
 d3 x g h:=h a
def bindO {α β:Type} (f:CP α) (k:α→CP β) (x:List Bool):Option (β×Nat):=match f.O x with
 | some (a,c)=>((k a).O (x.drop c)).map fun r=>(r.1,c+r.2)
 | none=>none
def bindD {α β:Type} (f:CP α) (k:α→CP β) (x:List Bool) (g:β→Rat):Rat:=match f.O x with
 | some (a,c)=>(k a).D (x.drop c) g
 | none=>f.D x fun a=>(k a).D [] g
theorem o_107 {α β:Type} (f:CP α) (k:α→CP β) (x:List Bool) (g:β→Rat) (b:Bool) (h:f.O x=none):bindD f k (x++[b]) g=f.D (x++[b]) fun a=>(k a).D [] g:=by
 unfold bindD
 split
 ·rename_i a c h2
  rw [f.d1 _ _ _ _ h2,f.o3 _ _ _ _ h h2,List.drop_of_length_le (by simp)]
 ·rfl
def bind {α β:Type} (f:CP α) (k:α→CP β):CP β where
 O:=bindO f k
 D:=bindD f k
 o2 x r n h:=by
  unfold bindO at h ⊢
  split at h
  ·rename_i a c h1
   obtain ⟨hc,hb⟩:=f.o2 _ _ _ h1
   obtain ⟨⟨r',c'⟩,h2,h3⟩:=Option.map_eq_some_iff.1 h
   cases h3
   obtain ⟨hc2,hb2⟩:=(k a).o2 _ _ _ h2
   rw [List.length_drop] at hc2
   refine ⟨by simp only;omega,fun b=>?_⟩
   rw [hb b]
   simp only
   rw [List.drop_append_of_le_length hc,hb2 b]
   rfl
  ·cases h
 o3 x b r n h h':=by
  unfold bindO at h h'
  cases h1:f.O x with
  | some ac =>
   obtain ⟨a,c⟩:=ac
   rw [h1] at h
   obtain ⟨hc,hb⟩:=f.o2 _ _ _ h1
   rw [hb b] at h'
   simp only at h h'
   rw [List.drop_append_of_le_length hc] at h'
   obtain ⟨⟨r',c'⟩,h2,h3⟩:=Option.map_eq_some_iff.1 h'
   cases h3
   have:=(k a).o3 _ _ _ _ (Option.map_eq_none_iff.1 h) h2
   rw [List.length_drop] at this
   simp only;omega
  | none =>
   cases h2:f.O (x++[b]) with
   | none=>rw [h2] at h';cases h'
   | some ac =>
    obtain ⟨a,c⟩:=ac
    rw [h2] at h'
    simp only at h'
    have hc:=f.o3 _ _ _ _ h1 h2
    rw [List.drop_of_length_le (by simp;omega)] at h'
    obtain ⟨⟨r',c'⟩,h3,h4⟩:=Option.map_eq_some_iff.1 h'
    cases h4
    have:=((k a).o2 _ _ _ h3).1
    simp only [List.length_nil] at this
    simp only;omega
 d1 x r n g h:=by
  unfold bindO at h
  unfold bindD
  split at h
  ·rename_i a c h1
   obtain ⟨⟨r',c'⟩,h2,h3⟩:=Option.map_eq_some_iff.1 h
   cases h3
   exact (k a).d1 _ _ _ _ h2
  ·cases h
 d2 x g h:=by
  unfold bindO at h
  cases h1:f.O x with
  | some ac =>
   obtain ⟨a,c⟩:=ac
   rw [h1] at h
   obtain ⟨hc,hb⟩:=f.o2 _ _ _ h1
   unfold bindD
   rw [h1,hb false,hb true]
   simp only
   rw [List.drop_append_of_le_length hc,List.drop_append_of_le_length hc]
   exact (k a).d2 _ _ (Option.map_eq_none_iff.1 h)
  | none =>
   rw [o_107 f k x g false h1,o_107 f k x g true h1,←f.d2 _ _ h1]
   unfold bindD
   rw [h1]
 d3 x g h:=by
  unfold bindD
  split
  ·exact (k _).d3 _ _ h
  ·exact f.d3 _ _ fun a=>(k a).d3 _ _ h
end CP
end
section

end
section

end
section

end
section

end
section

end
section
open Go.RowKit
abbrev Wm:=List (St×Nat)
def wnC (p:St×Nat):List D:=stD p.1++[.int .i64 p.2]
def spN (l:Wm):List D:=l.flatMap wnC
def getN (s:St):Wm→Nat
 | []=>0
 | p::r=>if s=p.1 then p.2 else getN s r
def setN (l:Wm) (s:St) (v:Nat):Wm:=match l with
 | []=>[(s,v)]
 | p::r=>if s=p.1 then (s,v)::r else p::setN r s v
def touN (l:Wm) (s:St):Wm:=match l with
 | []=>[(s,0)]
 | p::r=>if s=p.1 then p::r else p::touN r s
def addN (l:Wm) (s:St) (w:Nat):Wm:=setN l s (getN s l+w)
end
section
open Go.RowKit
theorem map_set {n k:Nat} {f:Nat→V} {x:V}:((List.range n).map f).set k x=(List.range n).map fun s=>if s=k then x else f s:=by
 apply List.ext_getElem?
 intro i
 rw [List.getElem?_set,List.getElem?_map,List.getElem?_map]
 by_cases h:i<n
 ·rw [List.getElem?_range h]
  by_cases e:k=i
  ·subst e;simp [h]
  ·simp [e,show ¬i=k from fun e'=>e e'.symm]
 ·rw [List.getElem?_eq_none (by simpa using h)]
  simp
  omega
theorem map_id {T:List V}:(List.range T.length).map (fun s=>T.getD s .junk)=T:=by
 apply List.ext_getElem?
 intro i
 rw [List.getElem?_map]
 by_cases h:i<T.length
 ·rw [List.getElem?_range h];simp [List.getD_eq_getElem?_getD,h]
 ·rw [List.getElem?_eq_none (by simpa using h),List.getElem?_eq_none (by omega)];rfl
section
variable (T:List V) (s1 s2:Nat) (s3:Bool) (Lm:Wm) (w:Nat)
def hW (H:List (Option Ob)) (S:Nat→Bool):List (Option Ob):=H.set 5 (some ⟨1000386,(spN (if S 7 then addN Lm (s1,s2,s3) w else if S 5 then touN Lm (s1,s2,s3) else Lm)).map .d⟩)
end
end
section
open Go.RowKit
end
section
open Go.RowKit
end
section
open Go.RowKit
end
section
open Go.RowKit
theorem o_108 {l:Sp} (hu:Uq l) (i:Nat) (hi:i+1<(atQ l).length):ltS (atQ l)[i].1 (atQ l)[i+1].1=true:=by
 have h2:(atQ l).Pairwise fun a b=>leP a b=true:=List.pairwise_mergeSort o_u3 o_u4 _
 have h3:=List.pairwise_iff_getElem.1 h2 i (i+1) (by omega) hi (Nat.lt_succ_self _)
 have hua:Uq (atQ l):=o_u8 hu
 have hne:(atQ l)[i].1≠(atQ l)[i+1].1:=by
  unfold Uq at hua
  have h4:=List.pairwise_iff_getElem.1 hua i (i+1) (by simp;omega) (by simpa using hi) (Nat.lt_succ_self _)
  simpa using h4
 unfold leP at h3
 simp only [Bool.not_eq_true'] at h3
 rcases o_u2 (atQ l)[i].1 (atQ l)[i+1].1 with h | h | h
 ·exact h
 ·exact absurd h hne
 ·rw [h] at h3;cases h3
theorem o_109 (L:Sp):psum L L.length=exQ (fun _=>1) L:=by
 have key:∀(L:Sp) (x:Rat),L.foldl (fun x p=>x+p.2) x=x+exQ (fun _=>1) L:=by
  intro L
  induction L with
  | nil=>intro x;simp only [List.foldl_nil,exQ];grind
  | cons p L ih=>intro x;rw [List.foldl_cons,ih];simp only [exQ];grind
 unfold psum
 rw [List.take_length,key];grind
theorem o_10a {D B:Nat} {L:Sp} (h:∀p∈L,Gr D B p.2):∀i,i≤L.length→Gr D (i*B) (psum L i)
 | 0,_=>by simpa [psum] using Gr.zero D (0*B)
 | i+1,hi=>by
  have hi':i<L.length:=hi
  rw [o_xp L i hi']
  have:=(o_10a h i (by omega)).add (h L[i] (List.getElem_mem hi'))
  rwa [Nat.add_mul,Nat.one_mul]
end
section
open Go.RowKit
end
section
open Go.RowKit
end
section
open Go.RowKit
end
section
open Go.RowKit
def dlQ (s t:St):Rat:=if t=s then 1 else 0
def gA (top:Nat):Nat→St→Rat
 | 0,_=>0
 | i+1,t=>(gA top i t+dlQ (top-i,0,true) t)+dlQ (top-i,0,false) t
end
section
open Go.RowKit
end
section
open Go.RowKit
end
section
open Go.RowKit
section
variable {top:Nat} {c V:Nat→Rat}
end
end
section
open Go.RowKit
section
variable {V:St→Rat} {l:Sp} (h0:∀p∈l,0≤p.2)
 include h0
end
end
section
open Go.RowKit
theorem o_10b:rD 0 = .agg [natW 0,.bool false,natW 0]:=by rfl
theorem sub_zero:Sub1 (.d (.agg [.nilsl,.bool false,.nilsl])) (.d (rD 0)):=by
 rw [o_10b]
 exact Sub1.aggd (Subs.cons Sub1.nil (Subs.cons (Sub1.refl _) (Subs.cons Sub1.nil (Subs.refl _))))
end
section
open Go.RowKit
end
section
open Go.RowKit
def vlQ (k a w:Nat) (s:St):Rat:=valR k a w s.1 s.2.1
end
section
open Go.RowKit
theorem o_10c:∀{l:Sp},Uq l→∀p∈l,getQ l p.1=p.2
 | q::l,hu,p,hp=>by
  unfold Uq at hu
  rw [List.map_cons,List.nodup_cons] at hu
  unfold getQ
  rcases List.mem_cons.1 hp with rfl | hp
  ·simp
  ·rw [if_neg fun e=>hu.1 (List.mem_map.2 ⟨p,hp,e⟩)]
   exact o_10c hu.2 p hp
theorem o_10d:∀{l:Sp} {t:St},getQ l t≠0→(t,getQ l t)∈l
 | [],t,h=>by simp [getQ] at h
 | q::l,t,h=>by
  unfold getQ at h ⊢
  split
  ·rename_i e
   simp [e]
  ·rename_i e
   rw [if_neg e] at h
   exact List.mem_cons_of_mem _ (o_10d h)
theorem o_10e {l:Sp} (h:Uq l):l.Nodup:=by
 unfold Uq at h
 rw [List.nodup_iff_pairwise_ne,List.pairwise_map] at h
 exact List.nodup_iff_pairwise_ne.2 (h.imp fun hne e=>hne (by rw [e]))
theorem o_10f {A B:Sp} (hA:Uq A) (hB:Uq B) (h:∀t,getQ A t=getQ B t):atQ A=atQ B:=by
 have key:∀{A B:Sp},Uq A→(∀t,getQ A t=getQ B t)→∀p,p∈nzQ A→p∈nzQ B:=fun {A B} hA h p hp=>by
  obtain ⟨h1,h2⟩:=List.mem_filter.1 hp
  have h3:=o_10c hA p h1
  have h4:p.2≠0:=by simpa using h2
  rw [h] at h3
  have h5:=o_10d (l:=B) (t:=p.1) (by rw [h3];exact h4)
  rw [h3] at h5
  exact List.mem_filter.2 ⟨h5,h2⟩
 have hp:(nzQ A).Perm (nzQ B):=(List.perm_ext_iff_of_nodup (o_10e (o_u7 hA)) (o_10e (o_u7 hB))).2 fun p=>⟨key hA h p,key hB (fun t=>(h t).symm) p⟩
 refine o_ua hB ((o_u5 A).trans hp) ?_
 have h2:(atQ A).Pairwise fun a b=>leP a b=true:=List.pairwise_mergeSort o_u3 o_u4 _
 have h3:(atQ A).Pairwise fun a b=>a.1≠b.1:=by
  have:=o_u8 hA
  unfold Uq at this
  rwa [List.nodup_iff_pairwise_ne,List.pairwise_map] at this
 refine (h2.and h3).imp ?_
 rintro a b ⟨h4,h5⟩
 unfold leP at h4
 rcases o_u2 a.1 b.1 with h | h | h
 ·exact h
 ·exact absurd h h5
 ·rw [h] at h4;simp [h5] at h4
end
section
open Go.RowKit
end
section
open Go.RowKit
end
section
open Go.RowKit
theorem o_10g (s:St):atQ [(s,(1:Rat))]=[(s,1)]:=by
 have:nzQ [(s,(1:Rat))]=[(s,1)]:=by simp [nzQ]
 rw [atQ,this,List.mergeSort_singleton]
end
section
open Go.RowKit
end
section
open Go.RowKit
end
section
open Go.RowKit
end
section
open Go.RowKit
end
section
open Go.RowKit
end
section
open Go.RowKit
structure LsOK (k a w:Nat) (L:Sp) (D C E V:Nat):Prop where
 len:L.length≤1000
 one:exQ (fun _=>1) L=1
 dp:0<D
 cp:1≤C
 ep:0<E
 vp:1≤V
 sd:size D≤220
 sc:size C≤70
 se:size E≤2
 sv:size V≤2
 well:∀p∈L,WellR k a w p.1.1 p.1.2.1 p.1.2.2
 gr:∀p∈L,Gr D C p.2
 vg:∀p∈L,Gr E V (vlQ k a w p.1)
theorem Gr.nn {D B:Nat} {q:Rat} (hD:0<D) (h:Gr D B q):0≤q:=by
 obtain ⟨z,h1,-⟩:=h
 have hp:(0:Rat)<(D:Rat):=by exact_mod_cast hD
 apply Classical.byContradiction
 intro hn
 have hz:(0:Rat)≤(z:Rat):=by exact_mod_cast Nat.zero_le z
 have:=Rat.mul_lt_mul_of_pos_right (Rat.not_le.1 hn) hp
 grind
theorem LsOK.nn {k a w:Nat} {L:Sp} {D C E V:Nat} (h:LsOK k a w L D C E V):∀p∈L,0≤p.2:=fun p hp=>(h.gr p hp).nn h.dp
end
section
open Go.RowKit
end
section
open Go.RowKit
theorem o_10h:Eqn Tryz.prog o_6s [] [] (.d (.bool true)) []:=by
 refine Eqn.pure o_6u Plain.ok ?_
 have hG:GoodS 1 1 2:=⟨.inl ⟨rfl,by omega,by omega⟩,by omega,by omega⟩
 have hof:=o_xv hG (by omega) (0,0,false) (.inr ⟨by omega,rfl,by simp,by simp⟩) ⟨Nat.zero_le _,rfl,by simp⟩ 2 (by omega)
 rw [dst2] at hof
 have hsp:spD rcD [(((1,0,false):St),hf2),((2,0,false),hf2)]=[.int .i64 1,.int .i64 0,.bool false,natW 1,.bool false,natW 1,.int .i64 2,.int .i64 0,.bool false,natW 1,.bool false,natW 1]:=by rfl
 rw [hsp] at hof
 have ht:=o_ti hf2 ⟨by decide +kernel,by decide +kernel⟩
 have hr:rD hf2 = .agg [natW 1,.bool false,natW 1]:=by rfl
 rw [hr] at ht
 have hs:(txtQ hf2).toList=[49,47,50]:=by kernel_rfl
 refine cc (c':=?z249) ?_ ?_
 case refine_1=>cbv<;>exact rfl
 try simp only [parD,stD] at hof ⊢
 generalize natW 1=N1 at *
 generalize txtQ hf2=SS at *
 simp at hof
 refine A00 ?_;try with_reducible exact tt
 refine CallS.pu (hof) (R0 ?_);try with_reducible exact tt
 refine CallS.pu (ht) (R1 hs ?_);try with_reducible exact tt
 refine CallS.pu (ht) (R1 hs ?_);try with_reducible exact tt
end
section
open Go.RowKit
end
section
open Go.RowKit
end
section
open Go.RowKit
end
section
open Go.RowKit
end
section
open Go.RowKit
theorem o_10i (n:Nat):size (2^n)≤n/64+1:=by
 refine o_ix (o_jd _) ?_
 rw [o_jb,show 18446744073709551616=2^64 from rfl,←Nat.pow_mul]
 exact Nat.pow_lt_pow_right (by decide) (by omega)
end
section
open Go.RowKit
theorem o_10j {l:Sp} (h:∀p∈l,0≤p.2):∀p∈atQ l,0<p.2:=fun p hp=>by
 have h1:=List.mem_filter.1 ((o_u5 l).mem_iff.1 hp)
 have h2:p.2≠0:=by simpa using h1.2
 exact Classical.byContradiction fun hn=>h2 (Rat.le_antisymm (Rat.not_lt.1 hn) (h p h1.1))
theorem LsOK.rs {k a w:Nat} {L:Sp} {D C E V:Nat} (h:LsOK k a w L D C E V):∀p∈L,RS p.2 90000:=fun p hp=>(h.gr p hp).rs h.dp h.cp (by
 have:=o_nq C D
 have:=h.sd;have:=h.sc;omega)
end
section
open Go.RowKit
end
section

end
section

end
section

end
section

end
section

end
section

end
section
open Go.RowKit
end
section
open Go.RowKit
section
variable {mg:St→St→Sp}
end
section
variable {top:Nat} {c V:Nat→Rat} {M N:Rat}
end
end
section

end
section
open Go.RowKit
set_option maxHeartbeats 8000000 in
theorem o_10k {A B:Nat} (h:ThS A B) (s o:St) (hs:okT A B s) (ho:okT A B o):Eqn Tryz.prog o_8d [.d (parD 4 A B),.d (.agg (stD s)),.d (.agg (stD o))] [] (.mp 0) [spO (mgT A B s o)]:=by
 obtain ⟨s1,s2,s3⟩:=hs
 obtain ⟨o1,o2,o3⟩:=ho
 have hb9:=h.b
 have ha9:=h.a
 have hn:=h.n
 have hAB:(B+1)*A≤1000:=by
  have e1:(A+1)*(B+1)=A*(B+1)+(B+1):=by rw [Nat.add_mul,Nat.one_mul]
  rw [Nat.mul_comm]
  omega
 obtain ⟨na,hna⟩:∃na,na=o.2.1-s.2.1:=⟨_,rfl⟩
 obtain ⟨nb,hnb⟩:∃nb,nb=s.2.1-o.2.1:=⟨_,rfl⟩
 have hka:(na+1)*s.1≤1000:=Nat.le_trans (Nat.mul_le_mul (show na+1≤B+1 by omega) s1) hAB
 have hkb:(nb+1)*o.1≤1000:=Nat.le_trans (Nat.mul_le_mul (show nb+1≤B+1 by omega) o1) hAB
 have hta:=o_100 s ((o.2.1:Int)-s.2.1) na (by omega) (by omega) (by omega) (by omega)
 have htb:=o_100 o ((s.2.1:Int)-o.2.1) nb (by omega) (by omega) (by omega) (by omega)
 have ha:=SpOK.thin s na
 have hb:=SpOK.thin o nb
 have haat:=o_wg (thinQ s na) ha.uq ha.nz (Nat.le_trans (o_zz s na) (by omega)) (ha.rs (by rw [Nat.add_mul] at hka;omega))
 have hbat:=o_wg (thinQ o nb) hb.uq hb.nz (Nat.le_trans (o_zz o nb) (by omega)) (hb.rs (by rw [Nat.add_mul] at hkb;omega))
 have hA:=ha.at
 have hB:=hb.at
 have hAl:(atQ (thinQ s na)).length≤1000:=Nat.le_trans (o_wt _) (Nat.le_trans (o_zz s na) (by omega))
 have hBl:(atQ (thinQ o nb)).length≤1000:=Nat.le_trans (o_wt _) (Nat.le_trans (o_zz o nb) (by omega))
 have hrA:=hA.rs (by rw [Nat.add_mul] at hka;omega)
 have hrB:=hB.rs (by rw [Nat.add_mul] at hkb;omega)
 have hmg:mgT A B s o=timesQ (downA A B) (joQ (s.2.2 || o.2.2) (atQ (thinQ s na)) (atQ (thinQ o nb))):=by rw [hna,hnb];rfl
 obtain ⟨FF,hFF⟩:∃FF,FF=(s.2.2 || o.2.2):=⟨_,rfl⟩
 rw [←hFF] at hmg
 have hj:SpOK (na*s.1+nb*o.1) (fun t=>t.1≤A+A∧t.2=(max s.2.1 o.2.1,FF)) (joQ FF (atQ (thinQ s na)) (atQ (thinQ o nb))):=hA.join hB fun t u ht hu=>⟨by simp only;omega,by simp only [ht.2,Prod.mk.injEq,and_true];omega⟩
 have hkT:na*s.1+nb*o.1≤2000:=by rw [Nat.add_mul] at hka hkb;omega
 have hX:(A+A)*(B+1)≤80000:=by
  have e1:(A+1)*(B+1)=A*(B+1)+(B+1):=by rw [Nat.add_mul,Nat.one_mul]
  have e2:(A+A)*(B+1)=2*(A*(B+1)):=by rw [←Nat.two_mul,Nat.mul_assoc]
  omega
 have hJ:(A+1)*((B+1)*2)≤2000:=by have:=Nat.mul_assoc (A+1) (B+1) 2;omega
 have hfx:FF=true→max s.2.1 o.2.1=B:=by
  rw [hFF]
  simp only [Bool.or_eq_true]
  rintro (h | h)
  ·have:=s3 h;omega
  ·have:=o3 h;omega
 have hcl:∀t:St,(t.1≤A+A∧t.2=(max s.2.1 o.2.1,FF))→NextJ (downA A B) (2^((A+A)*(B-max s.2.1 o.2.1))) ((A+1)*((B+1)*2)) t∧Eqn Tryz.prog o_aw [.d (.agg (stD t)),.p 0 0] [PO 4 A B] (.mp 1) [PO 4 A B,spO (downA A B t)]:=by
  intro t ht
  have e1:t.2.1+(B-max s.2.1 o.2.1)=B:=by rw [ht.2];simp only;omega
  have e2:t.2.2=true→t.2.1=B:=by rw [ht.2];exact hfx
  have hd:=SpOK.down (A:=A) (B:=B) (X:=A+A) (B-max s.2.1 o.2.1) t e1 ht.1 e2
  refine ⟨hd.nextJ (o_z5 hd.uq hd.ky) (by omega),?_⟩
  have hdn:=o_z7 h (X:=A+A) (by omega) hX (B-max s.2.1 o.2.1) t e1 ht.1 e2
  refine Eqn.gen [0,2] o_ay (by simp) (by simp) (by rfl) (by decide) (by simp) (by simp [spO,PO]) ?_
  refine cc (c':=?z252) ?_ ?_
  case refine_1=>cbv<;>exact rfl
  try simp only [spO,stD,parD,PO] at hdn ⊢
  generalize spD rcD _=L at *
  refine A00 ?_;try with_reducible exact tt
  refine CallS.nX (hdn) (R0 ?_);try with_reducible exact tt
 have hef:na*s.1+nb*o.1+(A+A)*(B-max s.2.1 o.2.1)≤90000:=by
  have:(A+A)*(B-max s.2.1 o.2.1)≤(A+A)*(B+1):=Nat.mul_le_mul_left _ (by omega)
  omega
 have hjl:(joQ FF (atQ (thinQ s na)) (atQ (thinQ o nb))).length≤2000:=by
  have h1:((joQ FF (atQ (thinQ s na)) (atQ (thinQ o nb))).map (·.1)).length≤((List.range (A+A+1)).map fun k=>((k,max s.2.1 o.2.1,FF):St)).length:=by
   refine List.Nodup.length_le_of_subset hj.uq fun t ht=>?_
   obtain ⟨p,hp,rfl⟩:=List.mem_map.1 ht
   obtain ⟨h1,h2⟩:=hj.ky p hp
   refine List.mem_map.2 ⟨p.1.1,List.mem_range.2 (by omega),?_⟩
   rw [←h2]
  rw [List.length_map,List.length_map,List.length_range] at h1
  omega
 have hti:=o_z1 (f:=o_aw) (next:=downA A B) (T1:=27) (x0:=.int .i64 4) (x1:=.int .i64 A) (x2:=.int .i64 B) (by decide) (fun t:St=>t.1≤A+A∧t.2=(max s.2.1 o.2.1,FF)) (joQ FF (atQ (thinQ s na)) (atQ (thinQ o nb))) (2^((A+A)*(B-max s.2.1 o.2.1))) (2^(na*s.1+nb*o.1)) 1 2000 ((A+1)*((B+1)*2)) (2000*((A+1)*((B+1)*2))) hj.uq (fun p hp=>hj.ky p (List.mem_filter.1 hp).1) hj.nz (Nat.le_trans (List.length_filter_le _ _) hjl) (Nat.le_trans hjl (by omega)) (Nat.two_pow_pos _) (Nat.le_refl _) hj.gr (Nat.two_pow_pos _) hcl (o_z6 (by omega) (by omega) hef) (by omega) (Nat.mul_pos (by omega) (by omega))
 rw [←hmg] at hti
 have hAB2:∀x∈atQ (thinQ s na),∀y∈atQ (thinQ o nb),Gr (2^(na*s.1)*2^(nb*o.1)) 1 (x.2*y.2):=fun x hx y hy=>(hA.gr x hx).mul (hB.gr y hy)
 have hkeyA:=hA.ky
 have hkeyB:=hB.ky
 unfold joQ at hti
 clear hj hjl hmg hef hcl hJ hX ha hb hA hB
 obtain ⟨AL,hAL⟩:∃AL,AL=atQ (thinQ s na):=⟨_,rfl⟩
 obtain ⟨BL,hBL⟩:∃BL,BL=atQ (thinQ o nb):=⟨_,rfl⟩
 rw [←hAL,←hBL] at hti
 rw [←hAL] at haat hAl hrA hAB2 hkeyA
 rw [←hBL] at hbat hBl hrB hAB2 hkeyB
 clear hAL hBL
 have hsz:size (1000000*(2^(na*s.1)*2^(nb*o.1)))≤100000:=by
  have:=o_z6 (L:=1000) (J:=1000) (e:=na*s.1) (f:=nb*o.1) (by omega) (by omega) (by omega)
  exact this
 obtain ⟨DD,hDD⟩:∃DD,DD=2^(na*s.1)*2^(nb*o.1):=⟨_,rfl⟩
 have hDp:0<DD:=by rw [hDD];exact Nat.mul_pos (Nat.two_pow_pos _) (Nat.two_pow_pos _)
 rw [←hDD] at hsz hAB2
 have hADl:=o_tn rcD (fun _=>rfl) AL
 have hBDl:=o_tn rcD (fun _=>rfl) BL
 have hgetA:=o_wv AL
 have hgetB:=o_wv BL
 have hgO:=o_zy (f:=FF) hAB2
 refine Eqn.gen [6] o_8f (by simp) (by simp) (by rfl) (by decide) (by simp) (by simp [spO]) ?_
 obtain ⟨K,T,F⟩:=s
 obtain ⟨K2,T2,F2⟩:=o
 simp only at s1 s2 o1 o2 hFF hta htb haat hbat hti hkeyA hkeyB
 have e1:IntKind.i64.wrap ((T2:Int)-T)=(T2:Int)-T:=w64 (by omega) (by omega)
 have e2:IntKind.i64.wrap ((T:Int)-T2)=(T:Int)-T2:=w64 (by omega) (by omega)
 refine cc (c':=?z253) ?_ ?_
 case refine_1=>cbv<;>exact rfl
 try simp only [spO,stD,parD] at hta htb haat hbat hti ⊢
 generalize spD rcD (mgT A B (K,T,F) (K2,T2,F2))=LM at *
 generalize spD rcD (thinQ (K,T,F) na)=LA at *
 generalize spD rcD (thinQ (K2,T2,F2) nb)=LB at *
 refine A10 (fs e1 e2) ?_;try with_reducible exact tt
 refine CallS.nX (hta) (R1 e2 ?_);try with_reducible exact tt
 refine CallS.nX (htb) (R1 e2 ?_);try with_reducible exact tt
 refine A00 ?_;try with_reducible exact tt
 refine CallS.g [3] (haat) (R0 ?_);try with_reducible exact tt
 refine AW.loopG (α:=Nat) (fun i=>setS (List.replicate 79 .junk) [(3,.p 0 0),(4,.p 1 0),(5,.p 2 0),(7,.mp 3),(8,.mp 4),(9,.mp 5),(37,.d (.sl AL.length (spD rcD AL))),(38,.d (.int .i64 AL.length)),(39,.d (.int .i64 (i:Nat)))]) (fun i=>[some ⟨27,[.d (.int .i64 (4:Nat)),.d (.int .i64 A),.d (.int .i64 B)]⟩,some ⟨29,[.d (.int .i64 K),.d (.int .i64 T),.d (.bool F)]⟩,some ⟨29,[.d (.int .i64 K2),.d (.int .i64 T2),.d (.bool F2)]⟩,some ⟨1000391,LA.map .d⟩,some ⟨1000391,LB.map .d⟩,some ⟨1000391,(spD rcD (joO FF AL BL i)).map .d⟩]) (fun i=>i≤AL.length) (fun i=>AL.length-i) 0 ?_ (Nat.zero_le _) ?_ ?_ ?_
 ·intro i hi;simp
 ·simp
 ·simp [joO,spD]
 rintro i hi
 simp
 by_cases hi2:i<AL.length
 ·have hi3:(i:Int)<AL.length:=by omega
  obtain ⟨x1,x2,x3,q,N1,N2,N3,hp,hN,hg⟩:=hgetA i hi2
  have hxm:((x1,x2,x3),q)∈AL:=by rw [←hp];exact List.getElem_mem hi2
  have hky:=hkeyA _ hxm
  have hxr:=hrA _ hxm
  have hgo:=hgO i hi
  have hnx:=o_yr FF AL BL i hi2
  rw [hp] at hnx
  have ewi:IntKind.i64.wrap ((i:Int)+1)=((i+1:Nat):Int):=by rw [w64 (by omega) (by omega)];omega
  have hb6:i*6+6≤AL.length*6:=by omega
  have hb7:i*6<AL.length*6:=by omega
  obtain ⟨hx1,hx2⟩:=hky
  simp only [Prod.mk.injEq] at hx1 hx2
  refine A10 (fs hi2 (fs hi3 (fs hg (fs hADl (fs hb6 hb7))))) ?_;try with_reducible exact tt
  refine CallS.g [4] (hbat) (R0 ?_);try with_reducible exact tt
  refine AW.loopG (α:=Nat) (fun j=>setS (List.replicate 79 .junk) [(3,.p 0 0),(4,.p 1 0),(5,.p 2 0),(7,.mp 3),(8,.mp 4),(9,.mp 5),(11,.p 6 0),(37,.d (.sl AL.length (spD rcD AL))),(38,.d (.int .i64 AL.length)),(39,.d (.int .i64 (i:Nat))),(44,.d (.sl BL.length (spD rcD BL))),(45,.d (.int .i64 BL.length)),(46,.d (.int .i64 (j:Nat)))]) (fun j=>[some ⟨27,[.d (.int .i64 (4:Nat)),.d (.int .i64 A),.d (.int .i64 B)]⟩,some ⟨29,[.d (.int .i64 K),.d (.int .i64 T),.d (.bool F)]⟩,some ⟨29,[.d (.int .i64 K2),.d (.int .i64 T2),.d (.bool F2)]⟩,some ⟨1000391,LA.map .d⟩,some ⟨1000391,LB.map .d⟩,some ⟨1000391,(spD rcD (joI FF ((x1,x2,x3),q) BL (joO FF AL BL i) j)).map .d⟩,some ⟨48,[.d (.int .i64 x1),.d (.int .i64 x2),.d (.bool x3),.d N1,.d N2,.d N3]⟩]) (fun j=>j≤BL.length) (fun j=>BL.length-j) 0 ?_ (Nat.zero_le _) ?_ ?_ ?_
  ·intro j hj;simp
  ·simp
  ·simp [joI]
  rintro j hj
  simp
  by_cases hj2:j<BL.length
  ·have hj3:(j:Int)<BL.length:=by omega
   obtain ⟨y1,y2,y3,r,M1,M2,M3,hpy,hM,hgy⟩:=hgetB j hj2
   have hym:((y1,y2,y3),r)∈BL:=by rw [←hpy];exact List.getElem_mem hj2
   obtain ⟨hy1,-⟩:=hkeyB _ hym
   simp only at hy1
   have hyr:=hrB _ hym
   have hnj:=o_yq FF ((x1,x2,x3),q) BL (joO FF AL BL i) j hj2
   rw [hpy] at hnj
   simp only at hnj
   have hgi:=o_zx (f:=FF) hgo (hAB2 _ hxm) j hj
   have hqr:=hAB2 _ hxm _ hym
   have hcap:i*BL.length+j+1≤1000000:=by
    have:(i+1)*BL.length≤1000*1000:=Nat.mul_le_mul (by omega) hBl
    rw [Nat.add_mul,Nat.one_mul] at this
    omega
   have hadd:=o_ux (joI FF ((x1,x2,x3),q) BL (joO FF AL BL i) j) (x1+y1,x2,FF) (q*r) (((o_wn hgi _).le (C:=1000000) (by omega)).rs hDp (by omega) hsz) ((hqr.le (C:=1000000) (by omega)).rs hDp (by omega) hsz)
   rw [←hnj] at hadd
   have hmul:=o_o4 q r hxr hyr
   have ews:IntKind.i64.wrap ((x1:Int)+y1)=((x1+y1:Nat):Int):=by rw [w64 (by omega) (by omega)];omega
   have ewj:IntKind.i64.wrap ((j:Int)+1)=((j+1:Nat):Int):=by rw [w64 (by omega) (by omega)];omega
   have hc6:j*6+6≤BL.length*6:=by omega
   have hc7:j*6<BL.length*6:=by omega
   obtain ⟨xy,hxy⟩:∃xy,xy=x1+y1:=⟨_,rfl⟩
   rw [←hxy] at hadd ews
   rw [o_uu q,o_uu r,o_uu (q*r),hN,hM] at hmul
   rw [o_uu (q*r)] at hadd
   obtain ⟨P1,P2,P3,hP⟩:∃P1 P2 P3,rcD (q*r)=[P1,P2,P3]:=⟨_,_,_,rfl⟩
   rw [hP] at hmul hadd
   simp only [spO,stD] at hadd
   cases F with
   | true =>
    simp only [Bool.true_or] at hFF
    subst hFF
    refine A10 (fs hj2 (fs hj3 (fs hgy (fs hBDl (fs hc6 (fs hc7 ews)))))) ?_;try with_reducible exact tt
    refine CallS.pu (hmul) (R0 ?_);try with_reducible exact tt
    refine CallS.g [5] (hadd) (R0 ?_);try with_reducible exact tt
    refine A10 ewj ?_;try with_reducible exact tt
    refine ⟨j+1,5,5,⟨by omega,by omega⟩,by omega,by omega,?_,?_⟩
    ·simp [swT,swH,sw,Ob.sw,V.ren,V.rens]
    ·simp [swT,swH,sw,Ob.sw,V.ren,V.rens]
   | false =>
    simp only [Bool.false_or] at hFF
    subst hFF
    refine A10 (fs hj2 (fs hj3 (fs hgy (fs hBDl (fs hc6 (fs hc7 ews)))))) ?_;try with_reducible exact tt
    refine CallS.pu (hmul) (R0 ?_);try with_reducible exact tt
    refine CallS.g [5] (hadd) (R0 ?_);try with_reducible exact tt
    refine A10 ewj ?_;try with_reducible exact tt
    refine ⟨j+1,5,5,⟨by omega,by omega⟩,by omega,by omega,?_,?_⟩
    ·simp [swT,swH,sw,Ob.sw,V.ren,V.rens]
    ·simp [swT,swH,sw,Ob.sw,V.ren,V.rens]
  ·have h2:j=BL.length:=by omega
   subst h2
   rw [←hnx]
   refine A00 ?_;try with_reducible exact tt
   refine A10 ewi ?_;try with_reducible exact tt
   refine ⟨i+1,5,5,⟨by omega,by omega⟩,by omega,by omega,?_,?_⟩
   ·simp [swT,swH,sw,Ob.sw,V.ren,V.rens]
   ·simp [swT,swH,sw,Ob.sw,V.ren,V.rens]
 ·have h2:i=AL.length:=by omega
  subst h2
  refine A00 ?_;try with_reducible exact tt
  refine CallS.g [5,0] (hti) (R0 ?_);try with_reducible exact tt
  done
end
section
open Go.RowKit
end
section
open Go.RowKit
end
section
open Go.RowKit
end
section
open Go.RowKit
end
section
open Go.RowKit
end
section
open Go.RowKit
theorem well0 (K A B:Nat):WellR K A B 0 0 false:=by
 unfold WellR WellT
 by_cases hk:K=4
 ·exact .inl ⟨hk,Nat.zero_le _,Nat.zero_le _,by simp⟩
 ·exact .inr ⟨hk,rfl,Nat.zero_le _,by simp⟩
end
end Go.Proofs.YtidfejfgmlakpaaGreatDoor.Am
