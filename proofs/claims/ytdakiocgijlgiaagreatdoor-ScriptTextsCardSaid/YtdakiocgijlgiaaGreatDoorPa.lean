/- Parts of the proof: AmA, AmTb, AmB, AmC, AmD, AmE, AmF, AmG, AmH, AmI, AmJ, AmKa, AmRo, AmK, AmKb, AmKc, AmKd. -/
import Derived.WalkKit
import Derived.WalkSpells
import Derived.WalkLawsBesides
import Derived.Laws.OwnMore
import Derived.Deep.AppendSrc
import Derived.Laws.BytesString
import Derived.MapKept
import Derived.Carry
import Derived.Lib.UnsafeStr
import Derived.Lib.Builder
import Derived.Conc.SmallLaws
import Derived.Orders
import Derived.Maps.RangeRun
import Derived.Scope
import Derived.Laws.Externs
import Derived.RangeFuncIn
import Derived.RangeFuncRecord
import Derived.TacticsIn
import Derived.RangeFuncLeaves
import Derived.Shelf.Spec.BitsCarry
import Derived.RangeFuncSeq
import Derived.Shelf.Pu.ParseUintPublic10
import Derived.Shelf.Small.Strs
import Derived.Shelf.Strconv.AtoiAll
import Derived.Shelf.Strconv.Itoa3
import Derived.Shelf.Strings.Count
import Derived.Shelf.Strings.OnBuilder
import Derived.Shelf.Strings.Search3
import Derived.Shelf.Strings.SlTrimAscii
import Derived.KernelRfl
import Derived.Lib.AtoiAll
import Derived.Lib.ParseIntB
import Derived.Lib.ItoaNum
import Derived.Lib.Bytealg
import Derived.Lib.CountLaws
import Derived.Conc.LoneSelect
import Derived.Lib.SlTrimSet
import Derived.Test.YtdakiocgijlgiaaGreatDoorProg
import Derived.Test.YtdakiocgijlgiaaGreatDoorBase
set_option linter.unusedVariables false
set_option linter.unusedSimpArgs false
set_option maxRecDepth 100000
namespace Go.Proofs.YtdakiocgijlgiaaGreatDoor.Am
section
open Go.RowKit

inductive D where
 | int (k:IntKind) (n:Int)
 | bool (b:Bool)
 | str (s:ByteArray)
 | agg (l:List D)
 | sl (n:Nat) (l:List D)
 | slf (n:Nat) (l:List D)
 | nilsl
 | sl0
 | sle
 | ifc (t:TypeId) (d:D)
 | nilifc
 | nilp
 | nilfn
 | ptr (l:List D) (off:Nat)
 deriving Inhabited

mutual
def D.rep (I:Nat→Prop) (w:World):D→Value→Prop
 | .int k n,v=>v = .int k n
 | .bool b,v=>v = .bool b
 | .str s,v=>v = .string s
 | .agg l,v=>∃vs:List Value,v = .agg vs.toArray∧(∀u∈vs,u.oneCell'=true)∧D.reps I w l vs
 | .sl n l,v=>∃p cap,v = .slice p n cap∧n≤cap∧cap≤maxLen∧∃vs:List Value,(∀u∈vs,u.oneCell'=true)∧D.reps I w l vs ∧
   ((cap=0∧vs=[])∨∃b o,p=some ⟨b,o,none⟩∧(vs=[]∨I b)∧∀i u,vs[i]?=some u→w.cell? ⟨b,o+i,none⟩=some u)
 | .slf n l,v=>∃p,v = .slice p n n∧n≤maxLen∧∃vs:List Value,(∀u∈vs,u.oneCell'=true)∧D.reps I w l vs ∧
   ((p=none∧n=0∧vs=[])∨∃b o,p=some ⟨b,o,none⟩∧(vs=[]∨I b)∧∀i u,vs[i]?=some u→w.cell? ⟨b,o+i,none⟩=some u)
 | .nilsl,v=>v = .slice none 0 0
 | .sl0,v=>∃p:Option Addr,v = .slice p 0 0
 | .sle,v=>∃(a:Addr) (cap:Nat),v = .slice (some a) 0 cap∧cap≤maxLen∧(a.spot=none∨cap=0)
 | .ifc t d,v=>∃u,v = .iface t u∧D.rep I w d u
 | .nilifc,v=>v = .nilIface
 | .nilp,v=>v = .pointer none
 | .nilfn,v=>v = .nilFunc
 | .ptr l off,v=>∃b o,v = .pointer (some ⟨b,o+off,none⟩)∧I b∧∃vs:List Value,(∀u∈vs,u.oneCell'=true)∧D.reps I w l vs∧∀i u,vs[i]?=some u→w.cell? ⟨b,o+i,none⟩=some u
def D.reps (I:Nat→Prop) (w:World):List D→List Value→Prop
 | [],vs=>vs=[]
 | x::l,vs=>∃v r,vs=v::r∧D.rep I w x v∧D.reps I w l r
end

inductive V where
 | d (x:D)
 | agg (l:List V)
 | tup (l:List V)
 | p (n off:Nat)
 | row (n off len:Nat)
 | own (n s len:Nat)
 | mp (n:Nat)
 | ch (n:Nat)
 | fn (f:Fn) (caps:List V)
 | fb (f:Fn) (l:List V)
 | junk
 deriving Inhabited
@[match_pattern] abbrev V.ia (l:List D) (off:Nat):V:=.d (.ptr l off)

structure Mem where
 ρ:Nat→Option Nat
 I:Nat→Prop
 w:World

mutual
def V.rep (m:Mem):V→Value→Prop
 | .d x,v=>x.rep m.I m.w v
 | .agg l,v=>∃vs:List Value,v = .agg vs.toArray∧(∀u∈vs,u.oneCell'=true)∧V.reps m l vs
 | .tup l,v=>∃vs:List Value,v = .tuple vs.toArray∧V.reps m l vs
 | .p n off,v=>∃b,m.ρ n=some b∧v = .pointer (some ⟨b,off,none⟩)
 | .row n off len,v=>∃b o cap,m.ρ n=some b∧v = .slice (some ⟨b,o,none⟩) len cap∧(len=0∨o=off)∧len≤cap∧cap≤maxLen
 | .own n s len,v=>∃b t k cap,m.ρ n=some b∧m.w.shape? b=some (t,k)∧k=cap*s∧v = .slice (some ⟨b,0,none⟩) len cap∧len≤cap∧cap≤maxLen
 | .mp n,v=>∃b,m.ρ n=some b∧v = .map (some b)
 | .ch n,v=>∃b,m.ρ n=some b∧v = .chan (some b)
 | .fn f caps,v=>∃vs:List Value,v = .func f #[] vs.toArray∧V.reps m caps vs
 | .fb f l,v=>∃vs:List Value,v = .func f vs.toArray #[]∧V.reps m l vs
 | .junk,_=>True
def V.reps (m:Mem):List V→List Value→Prop
 | [],vs=>vs=[]
 | x::l,vs=>∃v r,vs=v::r∧V.rep m x v∧V.reps m l r
end

section
variable {I I':Nat→Prop} {w w':World}
mutual
theorem D.rep_mono (hI:∀b,I b→I' b) (hw:∀b,I b→w'.heap[b]?=w.heap[b]?):∀(x:D) (v:Value),D.rep I w x v→D.rep I' w' x v
 | .int _ _,_,h | .bool _,_,h | .str _,_,h | .nilsl,_,h | .sl0,_,h | .sle,_,h | .nilifc,_,h | .nilp,_,h | .nilfn,_,h=>by
  unfold D.rep at h ⊢;exact h
 | .agg l,v,h=>by
  unfold D.rep at h ⊢
  obtain ⟨vs,h1,h0,h2⟩:=h
  exact ⟨vs,h1,h0,D.reps_mono hI hw l vs h2⟩
 | .sl n l,v,h=>by
  unfold D.rep at h ⊢
  obtain ⟨p,cap,h1,h2,h3,vs,h0,h4,h5⟩:=h
  refine ⟨p,cap,h1,h2,h3,vs,h0,D.reps_mono hI hw l vs h4,h5.imp id ?_⟩
  rintro ⟨b,o,rfl,h6,h7⟩
  refine ⟨b,o,rfl,h6.imp id (hI b),fun i u hu=>?_⟩
  rcases h6 with rfl | h6
  ·simp at hu
  ·rw [World.cell?_of_block (hw b h6)];exact h7 i u hu
 | .slf n l,v,h=>by
  unfold D.rep at h ⊢
  obtain ⟨p,h1,h2,vs,h0,h4,h5⟩:=h
  refine ⟨p,h1,h2,vs,h0,D.reps_mono hI hw l vs h4,h5.imp id ?_⟩
  rintro ⟨b,o,rfl,h6,h7⟩
  refine ⟨b,o,rfl,h6.imp id (hI b),fun i u hu=>?_⟩
  rcases h6 with rfl | h6
  ·simp at hu
  ·rw [World.cell?_of_block (hw b h6)];exact h7 i u hu
 | .ifc t d,v,h=>by
  unfold D.rep at h ⊢
  obtain ⟨u,h1,h2⟩:=h
  exact ⟨u,h1,D.rep_mono hI hw d u h2⟩
 | .ptr l off,v,h=>by
  unfold D.rep at h ⊢
  obtain ⟨b,o,h1,h2,vs,h0,h3,h4⟩:=h
  exact ⟨b,o,h1,hI b h2,vs,h0,D.reps_mono hI hw l vs h3,fun i u hu=>by rw [World.cell?_of_block (hw b h2)];exact h4 i u hu⟩
theorem D.reps_mono (hI:∀b,I b→I' b) (hw:∀b,I b→w'.heap[b]?=w.heap[b]?):∀(l:List D) (vs:List Value),D.reps I w l vs→D.reps I' w' l vs
 | [],vs,h=>by unfold D.reps at h ⊢;exact h
 | x::l,vs,h=>by
  unfold D.reps at h ⊢
  obtain ⟨v,r,h1,h2,h3⟩:=h
  exact ⟨v,r,h1,D.rep_mono hI hw x v h2,D.reps_mono hI hw l r h3⟩
end
end
end
section
def pow10L:List D:=[.int .u64 1,.int .u64 10,.int .u64 100,.int .u64 1000,.int .u64 10000,.int .u64 100000,.int .u64 1000000,.int .u64 10000000,.int .u64 100000000,.int .u64 1000000000,.int .u64 10000000000,.int .u64 100000000000,.int .u64 1000000000000,.int .u64 10000000000000,.int .u64 100000000000000,.int .u64 1000000000000000,.int .u64 10000000000000000,.int .u64 100000000000000000,.int .u64 1000000000000000000,.int .u64 10000000000000000000]
def errSyn:List D:=[.ifc 454 (.ptr [.str ⟨#[105,110,118,97,108,105,100,32,115,121,110,116,97,120]⟩] 0)]
def errRng:List D:=[.ifc 454 (.ptr [.str ⟨#[118,97,108,117,101,32,111,117,116,32,111,102,32,114,97,110,103,101]⟩] 0)]
def tab (g:Nat):Option (List D):=if g=0 then some pow10L else if g=6 then some errSyn else if g=7 then some errRng else none
end
section
open Go.RowKit

section
variable {I:Nat→Prop} {w:World}
@[simp] theorem D.reps_nil {vs:List Value}:D.reps I w [] vs↔vs=[]:=by unfold D.reps;exact Iff.rfl
@[simp] theorem D.reps_cons {x:D} {l:List D} {v:Value} {r:List Value}:D.reps I w (x::l) (v::r)↔x.rep I w v∧D.reps I w l r:=by
 rw [D.reps]
 constructor
 ·rintro ⟨_,_,h,h1,h2⟩;cases h;exact ⟨h1,h2⟩
 ·rintro ⟨h1,h2⟩;exact ⟨_,_,rfl,h1,h2⟩
theorem D.reps_cons' {x:D} {l:List D} {vs:List Value}:D.reps I w (x::l) vs↔∃v r,vs=v::r∧x.rep I w v∧D.reps I w l r:=by rw [D.reps]
theorem D.reps_len:∀{l:List D} {vs:List Value},D.reps I w l vs→vs.length=l.length
 | [],vs,h=>by simp at h;simp [h]
 | x::l,vs,h=>by obtain ⟨v,r,rfl,_,h2⟩:=D.reps_cons'.1 h;simp [D.reps_len h2]
theorem D.reps_get:∀{l:List D} {vs:List Value},D.reps I w l vs→∀(i:Nat) (x:D),l[i]?=some x→∃v,vs[i]?=some v∧x.rep I w v
 | [],vs,h,i,x,hx=>by simp at hx
 | y::l,vs,h,i,x,hx=>by
  obtain ⟨v,r,rfl,h1,h2⟩:=D.reps_cons'.1 h
  cases i with
  | zero=>simp at hx;subst hx;exact ⟨v,rfl,h1⟩
  | succ i=>simpa using D.reps_get h2 i x (by simpa using hx)
theorem D.reps_of:∀{l:List D} {vs:List Value},vs.length=l.length→(∀(i:Nat) (x:D) (v:Value),l[i]?=some x→vs[i]?=some v→x.rep I w v)→D.reps I w l vs
 | [],vs,hl,h=>by simpa using hl
 | x::l,vs,hl,h=>by
  rcases vs with _ | ⟨v,r⟩
  ·simp at hl
  ·exact D.reps_cons.2 ⟨h 0 x v rfl rfl,D.reps_of (by simpa using hl) fun i y u hy hu=>h (i+1) y u (by simpa using hy) (by simpa using hu)⟩
theorem D.reps_iff {l:List D} {vs:List Value}:D.reps I w l vs↔vs.length=l.length∧∀(i:Nat) (x:D) (v:Value),l[i]?=some x→vs[i]?=some v→x.rep I w v :=
 ⟨fun h=>⟨D.reps_len h,fun i x v hx hv=>by obtain ⟨u,hu,h'⟩:=D.reps_get h i x hx;rw [hv] at hu;cases hu;exact h'⟩,fun h=>D.reps_of h.1 h.2⟩
theorem D.reps_append {l k:List D} {vs us:List Value} (h:D.reps I w l vs) (h':D.reps I w k us):D.reps I w (l++k) (vs++us):=by
 induction l generalizing vs with
 | nil=>simp at h;subst h;exact h'
 | cons x l ih=>obtain ⟨v,r,rfl,h1,h2⟩:=D.reps_cons'.1 h;exact D.reps_cons.2 ⟨h1,ih h2⟩
theorem D.reps_take {l:List D} {vs:List Value} (h:D.reps I w l vs) (n:Nat):D.reps I w (l.take n) (vs.take n):=by
 rw [D.reps_iff] at h ⊢
 refine ⟨by simp [h.1],fun i x v hx hv=>h.2 i x v ?_ ?_⟩
 ·rw [List.getElem?_take] at hx;split at hx<;>simp_all
 ·rw [List.getElem?_take] at hv;split at hv<;>simp_all
theorem D.reps_drop {l:List D} {vs:List Value} (h:D.reps I w l vs) (n:Nat):D.reps I w (l.drop n) (vs.drop n):=by
 rw [D.reps_iff] at h ⊢
 refine ⟨by simp [h.1],fun i x v hx hv=>h.2 (n+i) x v (by rwa [List.getElem?_drop] at hx) (by rwa [List.getElem?_drop] at hv)⟩
end

section
variable {m:Mem}
@[simp] theorem V.reps_nil {vs:List Value}:V.reps m [] vs↔vs=[]:=by unfold V.reps;exact Iff.rfl
@[simp] theorem V.reps_cons {x:V} {l:List V} {v:Value} {r:List Value}:V.reps m (x::l) (v::r)↔x.rep m v∧V.reps m l r:=by
 rw [V.reps]
 constructor
 ·rintro ⟨_,_,h,h1,h2⟩;cases h;exact ⟨h1,h2⟩
 ·rintro ⟨h1,h2⟩;exact ⟨_,_,rfl,h1,h2⟩
theorem V.reps_cons' {x:V} {l:List V} {vs:List Value}:V.reps m (x::l) vs↔∃v r,vs=v::r∧x.rep m v∧V.reps m l r:=by rw [V.reps]
theorem V.reps_len:∀{l:List V} {vs:List Value},V.reps m l vs→vs.length=l.length
 | [],vs,h=>by simp at h;simp [h]
 | x::l,vs,h=>by obtain ⟨v,r,rfl,_,h2⟩:=V.reps_cons'.1 h;simp [V.reps_len h2]
theorem V.reps_get:∀{l:List V} {vs:List Value},V.reps m l vs→∀(i:Nat) (x:V),l[i]?=some x→∃v,vs[i]?=some v∧x.rep m v
 | [],vs,h,i,x,hx=>by simp at hx
 | y::l,vs,h,i,x,hx=>by
  obtain ⟨v,r,rfl,h1,h2⟩:=V.reps_cons'.1 h
  cases i with
  | zero=>simp at hx;subst hx;exact ⟨v,rfl,h1⟩
  | succ i=>simpa using V.reps_get h2 i x (by simpa using hx)
theorem V.reps_of:∀{l:List V} {vs:List Value},vs.length=l.length→(∀(i:Nat) (x:V) (v:Value),l[i]?=some x→vs[i]?=some v→x.rep m v)→V.reps m l vs
 | [],vs,hl,h=>by simpa using hl
 | x::l,vs,hl,h=>by
  rcases vs with _ | ⟨v,r⟩
  ·simp at hl
  ·exact V.reps_cons.2 ⟨h 0 x v rfl rfl,V.reps_of (by simpa using hl) fun i y u hy hu=>h (i+1) y u (by simpa using hy) (by simpa using hu)⟩
theorem V.reps_iff {l:List V} {vs:List Value}:V.reps m l vs↔vs.length=l.length∧∀(i:Nat) (x:V) (v:Value),l[i]?=some x→vs[i]?=some v→x.rep m v :=
 ⟨fun h=>⟨V.reps_len h,fun i x v hx hv=>by obtain ⟨u,hu,h'⟩:=V.reps_get h i x hx;rw [hv] at hu;cases hu;exact h'⟩,fun h=>V.reps_of h.1 h.2⟩
theorem V.reps_append {l k:List V} {vs us:List Value} (h:V.reps m l vs) (h':V.reps m k us):V.reps m (l++k) (vs++us):=by
 induction l generalizing vs with
 | nil=>simp at h;subst h;exact h'
 | cons x l ih=>obtain ⟨v,r,rfl,h1,h2⟩:=V.reps_cons'.1 h;exact V.reps_cons.2 ⟨h1,ih h2⟩
theorem V.reps_take {l:List V} {vs:List Value} (h:V.reps m l vs) (n:Nat):V.reps m (l.take n) (vs.take n):=by
 rw [V.reps_iff] at h ⊢
 refine ⟨by simp [h.1],fun i x v hx hv=>h.2 i x v ?_ ?_⟩
 ·rw [List.getElem?_take] at hx;split at hx<;>simp_all
 ·rw [List.getElem?_take] at hv;split at hv<;>simp_all
theorem V.reps_drop {l:List V} {vs:List Value} (h:V.reps m l vs) (n:Nat):V.reps m (l.drop n) (vs.drop n):=by
 rw [V.reps_iff] at h ⊢
 refine ⟨by simp [h.1],fun i x v hx hv=>h.2 (n+i) x v (by rwa [List.getElem?_drop] at hx) (by rwa [List.getElem?_drop] at hv)⟩
theorem V.reps_set {l:List V} {vs:List Value} (h:V.reps m l vs) {x:V} {v:Value} (hx:x.rep m v) (n:Nat):V.reps m (l.set n x) (vs.set n v):=by
 rw [V.reps_iff] at h ⊢
 refine ⟨by simp [h.1],fun i y u hy hu=>?_⟩
 rw [List.getElem?_set] at hy hu
 by_cases e:n=i
 ·subst e
  simp only [if_true] at hy hu
  split at hy<;>split at hu<;>simp_all
 ·rw [if_neg e] at hy hu;exact h.2 i y u hy hu
theorem V.reps_map_d {l:List D} {vs:List Value}:V.reps m (l.map .d) vs↔D.reps m.I m.w l vs:=by
 induction l generalizing vs with
 | nil=>simp
 | cons x l ih=>rw [List.map_cons,V.reps_cons',D.reps_cons'];simp [ih,V.rep]
end

structure Ob where
 T:TypeId
 c:List V

def Tabs (m:Mem):Prop:=∀g l,tab g=some l→D.rep m.I m.w (.ptr l 0) (.pointer (some ⟨g,0,none⟩))
structure Mem.base (m:Mem):Prop where
 imm:∀b,m.I b→b<m.w.heap.size
 dom:∀n b,m.ρ n=some b→b<m.w.heap.size
 tabs:Tabs m
theorem Tabs.mono {m m':Mem} (h:Tabs m) (hI:∀b,m.I b→m'.I b) (hw:∀b,m.I b→m'.w.heap[b]?=m.w.heap[b]?):Tabs m' :=
 fun g l hg=>D.rep_mono hI hw _ _ (h g l hg)

def TG:Nat:=1000000
def glue (g:Bool) (l:List Value):Value:=if g then .agg l.toArray else l.headD undef
def entsOf (kw vw:Nat) (g:Bool) (vs:List Value):List MapEntry :=
 (List.range (vs.length/(kw+vw))).map fun i=>⟨.agg ((vs.drop (i*(kw+vw))).take kw).toArray,glue g ((vs.drop (i*(kw+vw)+kw)).take vw),i⟩
def entsS (vs:List Value):List MapEntry :=
 (List.range (vs.length/2)).map fun i=>⟨vs.getD (i*2) undef,vs.getD (i*2+1) undef,i⟩
def seenVal:Value→Nat
 | .int _ k=>k.toNat
 | _=>0
def iterOf:List Value→Obj
 | .map (some b)::.int .i64 n::r=>.mapIter (some b) n.toNat (r.map seenVal).toArray n.toNat
 | _=>.map #[] 0
def chanOf:List Value→List Value→Obj
 | .int .i64 c::buf,.int .i64 s::.int .i64 r::_=>.chan c.toNat buf.toArray false s.toNat r.toNat false
 | .int .i64 c::buf,_=>.chan c.toNat buf.toArray false 0 0 false
 | _,_=>.map #[] 0
def objOf (T:Nat) (vs more:List Value):Obj :=
 if T<TG then .cells (vs++more).toArray T (0,0) else
 if T=TG then iterOf vs else
 if T=TG+1 then chanOf vs more else
 if T=TG+2 then .map (entsS vs).toArray (vs.length/2) else
 .map (entsOf ((T-TG)/128) ((T-TG)/2%64) ((T-TG)%2==1) vs).toArray (vs.length/((T-TG)/128+(T-TG)/2%64))
theorem o_0 {T:Nat} (h:T<TG) (vs more:List Value):objOf T vs more = .cells (vs++more).toArray T (0,0):=if_pos h

theorem o_1 {T:Nat} (h:T<TG) (vs:List Value):objOf T vs [] = .cells vs.toArray T (0,0):=by rw [o_0 h,List.append_nil]

def Mem.obj (m:Mem) (n:Nat) (o:Ob):Prop :=
 ∃b,∃vs more:List Value,m.ρ n=some b∧m.w.heap[b]?=some (objOf o.T vs more)∧(∀u∈vs,u.oneCell'=true)∧V.reps m o.c vs∧¬m.I b

structure Mem.le (m m':Mem) (M:Nat→Prop):Prop where
 ρ:∀n b,m.ρ n=some b→m'.ρ n=some b
 I:∀b,m.I b→m'.I b
 os:m'.w.os=m.w.os
 tape:m'.w.tape=m.w.tape
 output:m'.w.output=m.w.output
 drawn:True
 size:m.w.heap.size≤m'.w.heap.size
 block:∀b,b<m.w.heap.size→(∀n,M n→m.ρ n≠some b)→m'.w.heap[b]?=m.w.heap[b]?
 shape:∀b,b<m.w.heap.size→m'.w.shape? b=m.w.shape? b
 imm:∀b,m.I b→m'.w.heap[b]?=m.w.heap[b]?
 newI:∀b,m'.I b→m.I b∨m.w.heap.size≤b∨∃n,M n∧m.ρ n=some b
 newρ:∀n b,m'.ρ n=some b→m.ρ n=some b∨m.w.heap.size≤b∨∃k,M k∧m.ρ k=some b

theorem o_2 {w:World} {b:Nat} {x:TypeId×Nat} (h:w.shape? b=some x):b<w.heap.size:=by
 unfold World.shape? at h
 split at h
 ·rename_i hb;exact (Array.getElem?_eq_some_iff.1 hb).1
 ·cases h

mutual
theorem V.rep_mono {m m':Mem} {M:Nat→Prop} (h:m.le m' M):∀(x:V) (v:Value),V.rep m x v→V.rep m' x v
 | .d x,v,k=>by unfold V.rep at k ⊢;exact D.rep_mono h.I h.imm x v k
 | .agg l,v,k=>by unfold V.rep at k ⊢;obtain ⟨vs,h1,h0,h2⟩:=k;exact ⟨vs,h1,h0,V.reps_mono h l vs h2⟩
 | .tup l,v,k=>by unfold V.rep at k ⊢;obtain ⟨vs,h1,h2⟩:=k;exact ⟨vs,h1,V.reps_mono h l vs h2⟩
 | .p n off,v,k=>by unfold V.rep at k ⊢;obtain ⟨b,h1,h2⟩:=k;exact ⟨b,h.ρ n b h1,h2⟩
 | .row n off len,v,k=>by unfold V.rep at k ⊢;obtain ⟨b,o,cap,h1,h2⟩:=k;exact ⟨b,o,cap,h.ρ n b h1,h2⟩
 | .own n s len,v,k=>by unfold V.rep at k ⊢;obtain ⟨b,t,z,cap,h1,h2,h3⟩:=k;exact ⟨b,t,z,cap,h.ρ n b h1,by rw [h.shape b (o_2 h2)];exact h2,h3⟩
 | .mp n,v,k=>by unfold V.rep at k ⊢;obtain ⟨b,h1,h2⟩:=k;exact ⟨b,h.ρ n b h1,h2⟩
 | .ch n,v,k=>by unfold V.rep at k ⊢;obtain ⟨b,h1,h2⟩:=k;exact ⟨b,h.ρ n b h1,h2⟩
 | .fn f l,v,k=>by unfold V.rep at k ⊢;obtain ⟨vs,h1,h2⟩:=k;exact ⟨vs,h1,V.reps_mono h l vs h2⟩
 | .fb f l,v,k=>by unfold V.rep at k ⊢;obtain ⟨vs,h1,h2⟩:=k;exact ⟨vs,h1,V.reps_mono h l vs h2⟩
 | .junk,v,k=>by unfold V.rep;trivial
theorem V.reps_mono {m m':Mem} {M:Nat→Prop} (h:m.le m' M):∀(l:List V) (vs:List Value),V.reps m l vs→V.reps m' l vs
 | [],vs,k=>by unfold V.reps at k ⊢;exact k
 | x::l,vs,k=>by
  unfold V.reps at k ⊢
  obtain ⟨v,r,h1,h2,h3⟩:=k
  exact ⟨v,r,h1,V.rep_mono h x v h2,V.reps_mono h l r h3⟩
end

theorem Tabs.le {m m':Mem} {M:Nat→Prop} (h:Tabs m) (k:m.le m' M):Tabs m':=h.mono k.I k.imm
theorem Mem.le.refl (m:Mem) (M:Nat→Prop):m.le m M :=
 ⟨fun _ _ h=>h,fun _ h=>h,rfl,rfl,rfl,trivial,Nat.le_refl _,fun _ _ _=>rfl,fun _ _=>rfl,fun _ _=>rfl,fun _ h=>.inl h,fun _ _ h=>.inl h⟩

theorem Mem.le.trans {m m1 m2:Mem} {M M1:Nat→Prop} (h:m.le m1 M) (h1:m1.le m2 M1) (hM:∀n b,m.ρ n=some b→M1 n→M n):m.le m2 M:=by
 have back:∀n b,b<m.w.heap.size→m1.ρ n=some b→M1 n→∃k,M k∧m.ρ k=some b:=fun n b hb' hn hm=>by
  rcases h.newρ n b hn with k | k | k
  ·exact ⟨n,hM n b k hm,k⟩
  ·omega
  ·exact k
 refine ⟨fun n b k=>h1.ρ n b (h.ρ n b k),fun b k=>h1.I b (h.I b k),h1.os.trans h.os,h1.tape.trans h.tape,h1.output.trans h.output,trivial,Nat.le_trans h.size h1.size,?_,?_,?_,?_,?_⟩
 ·intro b hb' hn
  rw [h1.block b (Nat.lt_of_lt_of_le hb' h.size) (fun n hM1 he=>by obtain ⟨k,k1,k2⟩:=back n b hb' he hM1;exact hn k k1 k2),h.block b hb' hn]
 ·intro b hb';rw [h1.shape b (Nat.lt_of_lt_of_le hb' h.size),h.shape b hb']
 ·intro b hI;rw [h1.imm b (h.I b hI),h.imm b hI]
 ·intro b hI
  rcases h1.newI b hI with h2 | h2 | ⟨n,h2,h3⟩
  ·exact h.newI b h2
  ·exact .inr (.inl (Nat.le_trans h.size h2))
  ·rcases Nat.lt_or_ge b m.w.heap.size with hlt | hge
   ·exact .inr (.inr (back n b hlt h3 h2))
   ·exact .inr (.inl hge)
 ·intro n b hn
  rcases h1.newρ n b hn with h2 | h2 | ⟨k,h2,h3⟩
  ·exact h.newρ n b h2
  ·exact .inr (.inl (Nat.le_trans h.size h2))
  ·rcases Nat.lt_or_ge b m.w.heap.size with hlt | hge
   ·exact .inr (.inr (back k b hlt h3 h2))
   ·exact .inr (.inl hge)

theorem Mem.le.mono {m m':Mem} {M M':Nat→Prop} (h:m.le m' M) (hM:∀n b,m.ρ n=some b→M n→M' n):m.le m' M' :=
 ⟨h.ρ,h.I,h.os,h.tape,h.output,h.drawn,h.size,fun b hb hn=>h.block b hb fun n hm he=>hn n (hM n b he hm) he,h.shape,h.imm,
  fun b hI=>(h.newI b hI).imp id (fun k=>k.imp id fun ⟨n,h1,h2⟩=>⟨n,hM n b h2 h1,h2⟩),fun n b hn=>(h.newρ n b hn).imp id (fun k=>k.imp id fun ⟨n,h1,h2⟩=>⟨n,hM n b h2 h1,h2⟩)⟩

theorem Mem.obj_keep {m m':Mem} {M:Nat→Prop} (hb:m.base) (h:m.le m' M) {n:Nat} {o:Ob} (hn:∀k b,M k→m.ρ n=some b→m.ρ k≠some b) (k:m.obj n o):m'.obj n o:=by
 obtain ⟨b,vs,more,h1,h2,h0,h3,h4⟩:=k
 have hlt:=hb.dom n b h1
 refine ⟨b,vs,more,h.ρ n b h1,?_,h0,V.reps_mono h _ _ h3,?_⟩
 ·rw [h.block b hlt fun n' hM=>hn n' b hM h1];exact h2
 ·intro hI
  rcases h.newI b hI with h5 | h5 | ⟨n',hM,he⟩
  ·exact h4 h5
  ·omega
  ·exact hn n' b hM h1 he
end
section
open Go.RowKit

inductive X where
 | t (n:Nat)
 | d (x:D)
 | fn (f:Nat)
 | bad
 deriving Inhabited

def X.ev (T:List V):X→V
 | .t n=>T.getD n .junk
 | .d x=>.d x
 | .fn f=>.fn (.func f) []
 | .bad=>.junk
def X.slots:X→List Nat
 | .t n=>[n]
 | _=>[]
def D.of1:Value→Option D
 | .int k n=>some (.int k n)
 | .bool b=>some (.bool b)
 | .string s=>some (.str s)
 | .slice none 0 0=>some .nilsl
 | .nilIface=>some .nilifc
 | .pointer none=>some .nilp
 | .nilFunc=>some .nilfn
 | _=>none
def D.ofs:List Value→Option (List D)
 | []=>some []
 | v::l=>match D.of1 v,D.ofs l with
  | some x,some r=>some (x::r)
  | _,_=>none
def X.of:Operand→X
 | .tmp n=>.t n
 | .const v=>match D.of1 v with
  | some x=>.d x
  | none=>.bad
 | .func f=>.fn f
 | .global _=>.bad

theorem D.of1_rep {v:Value} {x:D} (h:D.of1 v=some x) (I:Nat→Prop) (w:World):x.rep I w v∧v.oneCell'=true:=by
 unfold D.of1 at h
 split at h<;>first | (cases h;done) | (cases h;exact ⟨by unfold D.rep;rfl,rfl⟩)
theorem D.ofs_rep (I:Nat→Prop) (w:World):∀{vs:List Value} {l:List D},D.ofs vs=some l→D.reps I w l vs∧∀u∈vs,u.oneCell'=true
 | [],l,h=>by cases h;exact ⟨D.reps_nil.2 rfl,by simp⟩
 | v::r,l,h=>by
  unfold D.ofs at h
  split at h
  ·rename_i x l' hx hl
   cases h
   obtain ⟨h1,h2⟩:=D.ofs_rep I w hl
   obtain ⟨h3,h4⟩:=D.of1_rep hx I w
   exact ⟨D.reps_cons.2 ⟨h3,h1⟩,by simpa [h4] using h2⟩
  ·cases h

def Slots (m:Mem) (a:Act) (T:List V) (S:List Nat):Prop:=∀s∈S,(T.getD s .junk).rep m (a.tmps.getD s undef)

theorem X.rep {m:Mem} {a:Act} {T:List V} {S:List Nat} (h:Slots m a T S) (y:Operand) (hs:∀s∈(X.of y).slots,s∈S):((X.of y).ev T).rep m (a.eval y):=by
 cases y with
 | tmp n=>exact h n (hs n (by simp [X.of,X.slots]))
 | const v =>
  cases hv:D.of1 v with
  | none=>simp [X.of,hv,X.ev,V.rep]
  | some x=>simpa [X.of,hv,X.ev,V.rep,Act.eval] using (D.of1_rep hv m.I m.w).1
 | func f=>simp [X.of,X.ev,V.rep,Act.eval]
 | global g=>simp [X.of,X.ev,V.rep]

def D.cells:D→List D
 | .agg l=>l
 | x=>[x]
def V.cells?:V→Option (List V)
 | .d x=>some (x.cells.map .d)
 | .agg l=>some l
 | .tup _ | .junk=>none
 | x=>some [x]

theorem V.cells_rep {m:Mem} {x:V} {l:List V} {v:Value} (hl:x.cells?=some l) (h:x.rep m v):V.reps m l v.cells.toList∧∀u∈v.cells.toList,u.oneCell'=true:=by
 cases x with
 | d x =>
  simp only [V.cells?,Option.some.injEq] at hl
  subst hl
  unfold V.rep at h
  cases x with
  | agg l =>
   unfold D.rep at h
   obtain ⟨vs,rfl,h1,h2⟩:=h
   simpa [D.cells,Value.cells,V.reps_map_d] using ⟨h2,h1⟩
  | _ =>
   have h':=h
   unfold D.rep at h
   first
    | (subst h;simpa [D.cells,Value.cells,V.rep,Value.oneCell'] using h')
    | (obtain ⟨p,cap,rfl,_⟩:=h;simpa [D.cells,Value.cells,V.rep,Value.oneCell'] using h')
    | (obtain ⟨b,o,cap,rfl,_⟩:=h;simpa [D.cells,Value.cells,V.rep,Value.oneCell'] using h')
    | (obtain ⟨p,rfl⟩:=h;simpa [D.cells,Value.cells,V.rep,Value.oneCell'] using h')
    | (obtain ⟨p,rfl,_⟩:=h;simpa [D.cells,Value.cells,V.rep,Value.oneCell'] using h')
    | (obtain ⟨u,rfl,_⟩:=h;simpa [D.cells,Value.cells,V.rep,Value.oneCell'] using h')
    | (obtain ⟨b,o,rfl,_⟩:=h;simpa [D.cells,Value.cells,V.rep,Value.oneCell'] using h')
 | agg l' =>
  simp only [V.cells?,Option.some.injEq] at hl
  subst hl
  unfold V.rep at h
  obtain ⟨vs,rfl,h1,h2⟩:=h
  simpa [Value.cells] using ⟨h2,h1⟩
 | tup l'=>simp [V.cells?] at hl
 | junk=>simp [V.cells?] at hl
 | p n off =>
  simp only [V.cells?,Option.some.injEq] at hl
  subst hl
  have h':=h
  unfold V.rep at h
  obtain ⟨b,_,rfl⟩:=h
  simpa [Value.cells,Value.oneCell'] using h'
 | row n off len =>
  simp only [V.cells?,Option.some.injEq] at hl
  subst hl
  have h':=h
  unfold V.rep at h
  obtain ⟨b,o,cap,_,rfl,_⟩:=h
  simpa [Value.cells,Value.oneCell'] using h'
 | own n s len =>
  simp only [V.cells?,Option.some.injEq] at hl
  subst hl
  have h':=h
  unfold V.rep at h
  obtain ⟨b,t,z,cap,_,_,_,rfl,_⟩:=h
  simpa [Value.cells,Value.oneCell'] using h'
 | mp n =>
  simp only [V.cells?,Option.some.injEq] at hl
  subst hl
  have h':=h
  unfold V.rep at h
  obtain ⟨b,_,rfl⟩:=h
  simpa [Value.cells,Value.oneCell'] using h'
 | ch n =>
  simp only [V.cells?,Option.some.injEq] at hl
  subst hl
  have h':=h
  unfold V.rep at h
  obtain ⟨b,_,rfl⟩:=h
  simpa [Value.cells,Value.oneCell'] using h'
 | fn f caps =>
  simp only [V.cells?,Option.some.injEq] at hl
  subst hl
  have h':=h
  unfold V.rep at h
  obtain ⟨vs,rfl,_⟩:=h
  simpa [Value.cells,Value.oneCell'] using h'
 | fb f caps =>
  simp only [V.cells?,Option.some.injEq] at hl
  subst hl
  have h':=h
  unfold V.rep at h
  obtain ⟨vs,rfl,_⟩:=h
  simpa [Value.cells,Value.oneCell'] using h'

def V.toDs:List V→Option (List D)
 | []=>some []
 | .d x::l=>(V.toDs l).map (x::·)
 | _::_=>none
def mkAgg (l:List V):V:=match V.toDs l with
 | some ds=>.d (.agg ds)
 | none=>.agg l
theorem V.toDs_eq:∀{l:List V} {ds:List D},V.toDs l=some ds→l=ds.map .d
 | [],ds,h=>by cases h;rfl
 | .d x::l,ds,h=>by
  simp only [V.toDs,Option.map_eq_some_iff] at h
  obtain ⟨r,h1,rfl⟩:=h
  simp [V.toDs_eq h1]
 | .agg _::_,_,h | .tup _::_,_,h | .p ..::_,_,h | .row ..::_,_,h | .own ..::_,_,h | .mp ..::_,_,h | .ch ..::_,_,h | .fn ..::_,_,h | .fb ..::_,_,h | .junk::_,_,h=>by simp [V.toDs] at h
theorem o_3 {m:Mem} {l:List V} {vs:List Value} (h:V.reps m l vs) (h1:∀u∈vs,u.oneCell'=true):(mkAgg l).rep m (.agg vs.toArray):=by
 unfold mkAgg
 split
 ·rename_i ds hd
  rw [V.toDs_eq hd,V.reps_map_d] at h
  unfold V.rep D.rep
  exact ⟨vs,rfl,h1,h⟩
 ·unfold V.rep;exact ⟨vs,rfl,h1,h⟩
@[simp] theorem o_4 (l:List D):mkAgg (l.map .d) = .d (.agg l):=by
 have:V.toDs (l.map .d)=some l:=by induction l<;>simp_all [V.toDs]
 simp [mkAgg,this]

def setMany (l:List V) (off:Nat):List V→List V
 | []=>l
 | x::r=>setMany (l.set off x) (off+1) r
theorem o_5 (l:List V) (off:Nat) (c:List V):(setMany l off c).length=l.length:=by
 induction c generalizing l off with
 | nil=>rfl
 | cons x r ih=>simp [setMany,ih]

def live (H:List (Option Ob)) (n:Nat):Prop:=(H.getD n none).isSome=true

structure OpPost (m:Mem) (H H':List (Option Ob)) (wr:List Nat) (x:V) (v:Value) (m':Mem):Prop where
 base:m'.base
 le:m.le m' (·∈wr)
 rep:x.rep m' v
 obj:∀n∈wr,∀ob,H'.getD n none=some ob→m'.obj n ob
 keep:∀n,n∉wr→m'.ρ n=m.ρ n
 at_:∀n∈wr,live H' n→∃b,m'.ρ n=some b∧(m.w.heap.size≤b∨∃k∈wr,live H k∧m.ρ k=some b)
 inj:∀n∈wr,∀k∈wr,live H' n→live H' k→m'.ρ n=m'.ρ k→n=k

structure StepOK (P:Program) (o:Oper) (S:List Nat) (T:List V) (H:List (Option Ob)) (x:V) (H':List (Option Ob)) (rd wr:List Nat):Prop where
 same:∀n,n∉wr→H'.getD n none=H.getD n none
 len:H.length≤H'.length
 lt:∀n∈wr,n<H'.length
 wlive:∀n∈wr,live H n∨H.length≤n
 run:∀(m:Mem) (a:Act),m.base→Slots m a T S→(∀n,n∈rd∨n∈wr→∀ob,H.getD n none=some ob→m.obj n ob) →
  (∀n∈wr,H.length≤n→m.ρ n=none)→(∀n∈wr,∀k∈wr,live H n→live H k→m.ρ n=m.ρ k→n=k) →
  ∀K Q,(∀v m',OpPost m H H' wr x v m'→K (a.put o.dst v) m'.w)→o.wp P a m.w K Q

theorem StepOK.val {P:Program} {o:Oper} {S:List Nat} {T:List V} {H:List (Option Ob)} {x:V} {rd:List Nat}
  (h:∀(m:Mem) (a:Act),m.base→Slots m a T S→(∀n∈rd,∀ob,H.getD n none=some ob→m.obj n ob)→∃v,(execOp a.eval o).run P m.w = .ok (.value v) m.w∧x.rep m v):StepOK P o S T H x H rd [] where
 same:=fun _ _=>rfl
 len:=Nat.le_refl _
 lt:=by simp
 wlive:=by simp
 run:=by
  intro m a hb hs ho hf _ K Q hK
  obtain ⟨v,hr,hx⟩:=h m a hb hs (fun n hn=>ho n (.inl hn))
  unfold Oper.wp
  rw [hr]
  exact hK v m ⟨hb,Mem.le.refl _ _,hx,by simp,fun _ _=>rfl,by simp,by simp⟩

theorem o_6 {w:World} {o:Obj} {b:Nat} (h:b<w.heap.size):(w.alloc o).shape? b=w.shape? b:=by
 unfold World.shape?;rw [Below.heap_alloc _ _ _ h]

theorem Mem.new {m:Mem} (hb:m.base) (n:Nat) (hn:m.ρ n=none) (o:Ob) (vs:List Value) (h1:∀u∈vs,u.oneCell'=true) (hv:V.reps m o.c vs) :
  ∃m':Mem,m'.w=m.w.alloc (objOf o.T vs [])∧m'.base∧m.le m' (·∈[n])∧m'.obj n o∧(∀k,k∉[n]→m'.ρ k=m.ρ k)∧m'.ρ n=some m.w.heap.size:=by
 have hle:m.le ⟨fun k=>if k=n then some m.w.heap.size else m.ρ k,m.I,m.w.alloc (objOf o.T vs [])⟩ (·∈[n]):=by
  refine ⟨fun k b h=>?_,fun _ h=>h,rfl,rfl,rfl,trivial,by simp,fun b hlt _=>Below.heap_alloc _ _ _ hlt,fun b hlt=>o_6 hlt,fun b hI=>Below.heap_alloc _ _ _ (hb.imm b hI),fun _ h=>.inl h,fun k b h=>?_⟩
  ·dsimp only
   rw [if_neg (fun e=>by subst e;rw [hn] at h;cases h)];exact h
  ·dsimp only at h
   split at h
   ·cases h;exact .inr (.inl (Nat.le_refl _))
   ·exact .inl h
 refine ⟨⟨fun k=>if k=n then some m.w.heap.size else m.ρ k,m.I,m.w.alloc (objOf o.T vs [])⟩,rfl,⟨fun b h=>Nat.lt_of_lt_of_le (hb.imm b h) (by simp),fun k b h=>?_,hb.tabs.le hle⟩,hle,⟨m.w.heap.size,vs,[],by simp,heap_alloc_new _ _,h1,V.reps_mono hle _ _ hv,fun h=>by have:=hb.imm _ h;omega⟩,fun k hk=>by simp at hk;simp [hk],by simp⟩
 dsimp only at h ⊢
 split at h
 ·cases h;simp
 ·exact Nat.lt_of_lt_of_le (hb.dom k b h) (by simp)

theorem StepOK.newO {P:Program} {o:Oper} {S:List Nat} {T:List V} {H:List (Option Ob)} {x:V} (ob:Ob) {rd:List Nat}
  (h:∀(m:Mem) (a:Act),m.base→Slots m a T S→(∀n∈rd,∀ob,H.getD n none=some ob→m.obj n ob)→∃vs:List Value,(∀u∈vs,u.oneCell'=true)∧V.reps m ob.c vs∧∃v,(execOp a.eval o).run P m.w = .ok (.value v) (m.w.alloc (objOf ob.T vs []))∧∀m':Mem,m'.ρ H.length=some m.w.heap.size→m.le m' (·∈[H.length])→m'.w=m.w.alloc (objOf ob.T vs [])→x.rep m' v) :
  StepOK P o S T H x (H++[some ob]) rd [H.length] where
 same:=fun n hn=>by
  simp at hn
  rw [List.getD_eq_getElem?_getD,List.getD_eq_getElem?_getD]
  rcases Nat.lt_or_gt_of_ne hn with h | h
  ·rw [List.getElem?_append_left h]
  ·rw [List.getElem?_eq_none (by simp;omega),List.getElem?_eq_none (by omega)]
 len:=by simp
 lt:=by simp
 wlive:=by simp
 run:=by
  intro m a hb hs ho hf _ K Q hK
  obtain ⟨vs,h1,hv,v,hr,hx⟩:=h m a hb hs (fun n hn=>ho n (.inl hn))
  obtain ⟨m',hw,hb',hle,hob,hk,hρ⟩:=Mem.new hb H.length (hf _ (by simp) (Nat.le_refl _)) ob vs h1 hv
  unfold Oper.wp
  rw [hr,←hw]
  refine hK v m' ⟨hb',hle,hx m' hρ hle hw,fun n hn ob' h'=>?_,hk,fun n hn _=>?_,fun n hn k hk _ _ _=>?_⟩
  ·simp at hn;subst hn
   rw [List.getD_eq_getElem?_getD,List.getElem?_append_right (Nat.le_refl _),Nat.sub_self] at h'
   cases h';exact hob
  ·simp at hn;subst hn;exact ⟨_,hρ,.inl (Nat.le_refl _)⟩
  ·simp at hn hk;omega

theorem StepOK.new {P:Program} {o:Oper} {S:List Nat} {T:List V} {H:List (Option Ob)} {x:V} (ob:Ob) {rd:List Nat} (hT:ob.T<TG)
  (h:∀(m:Mem) (a:Act),m.base→Slots m a T S→(∀n∈rd,∀ob,H.getD n none=some ob→m.obj n ob)→∃vs:List Value,(∀u∈vs,u.oneCell'=true)∧V.reps m ob.c vs∧∃v,(execOp a.eval o).run P m.w = .ok (.value v) (m.w.alloc (.cells vs.toArray ob.T))∧∀m':Mem,m'.ρ H.length=some m.w.heap.size→m'.w=m.w.alloc (.cells vs.toArray ob.T)→x.rep m' v) :
  StepOK P o S T H x (H++[some ob]) rd [H.length] :=
 StepOK.newO ob fun m a hb hs ho=>by
  obtain ⟨vs,h1,h2,v,h3,h4⟩:=h m a hb hs ho
  refine ⟨vs,h1,h2,v,?_,fun m' k1 _ k2=>h4 m' k1 ?_⟩
  ·rw [o_1 hT];exact h3
  ·rw [o_1 hT] at k2;exact k2
end
section
open Go.RowKit
inductive A where
 | mv (x:X)
 | pick (c a b:X)
 | new (e:Nat) (z:List D)
 | box (e:Nat) (x:X)
 | build (z:List D) (ps:List (Nat×Nat×X))
 | bsl (e s n:Nat) (z:List D) (ps:List (Nat×Nat×X))
 | load (g:Bool) (s:Nat) (x:X)
 | store (s:Nat) (x y:X)
 | chk (x:X)
 | bin (op:BinOp) (x y:X)
 | beq (neg:Bool) (x y:X)
 | un (op:UnOp) (x:X)
 | conv (k:IntKind) (x:X)
 | cstr (x:X)
 | ifc (t:Nat) (x:X)
 | mkf (f:Fn) (cs:List X)
 | mksl (e s bytes:Nat) (z:List D) (n c:X)
 | slice (s:Nat) (x:X) (lo hi mx:Option X)
 | fa (off:Nat) (x:X)
 | fld (g:Bool) (off s:Nat) (x:X)
 | ix (s:Nat) (x i:X)
 | ext (x:X) (i:Nat)
 | call (f:Nat) (xs:List X)
 | callv (f:X) (xs:List X)
 | inv (r:X) (name:String) (xs:List X)
 | len (x:X)
 | lens (x:X)
 | mm (mx:Bool) (xs:List X)
 | app (e s bytes:Nat) (x y:X)
 | appz (e s bytes:Nat) (z:List D) (x y:X)
 | capn (x:X)
 | cut (s:Nat) (x hi:X)
 | bsl0
 | ixa (n s:Nat) (x i:X)
 | gstr (x i:X)
 | sstr (x:X) (lo hi:Option X)
 | bstr (x:X)
 | ixv (n s:Nat) (q:Bool) (x i:X)
 | gix (l:List D) (n s:Nat) (i:X)
 | sla (n s:Nat) (x:X) (lo hi:Option X)
 | cpy (s:Nat) (x y:X)
 | snl (neg:Bool) (x:X)
 | inl (neg:Bool) (x:X)
 | pnl (neg:Bool) (x:X)
 | aeq (neg:Bool) (ks:List Nat) (x y:X)
 | mkm (T:Nat)
 | mget (T:Nat) (ks:List Nat) (vw:Nat) (g:Bool) (z:List D) (x k:X)
 | mput (T:Nat) (ks:List Nat) (vw:Nat) (g:Bool) (x k v:X)
 | ment (T:Nat) (ks:List Nat) (vw:Nat) (g:Bool) (z:List D) (x k:X)
 | esto (T:Nat) (ks:List Nat) (vw:Nat) (g:Bool) (x s v:X)
 | newj (T:Nat)
 | mkS
 | mkc (bytes:Nat) (x:X)
 | mgS (x k:X)
 | mpS (x k v:X)
 | bldj (z:List V) (ps:List (Nat×Nat×X))
 | tou (x:X)
 | fru (u:Nat) (x:X)
 | mkb (f:Fn) (fs:List X)
 | peq (neg:Bool) (x y:X)
 | apps (e s bytes:Nat) (x y:X)
 | sdat (x:X)
 | ustr (e:Nat) (x y:X)
 | mrng (T w:Nat) (x:X)
 | mnx (x:X)
 | mety (x:X)
 | bad
 deriving Inhabited

def zeroAgg:Value→Bool
 | .agg _=>true
 | _=>false
def aggB (P:Program) (t:TypeId):Option Bool:=(P.underlying t).map fun
 | .struct _ | .array _ _=>true
 | _=>false

def zeroOf (P:Program) (t:TypeId):Option (List D):=(P.info? t).bind fun i=>i.zero.bind fun z=>D.ofs z.cells.toList
def fieldsOf (P:Program) (fs:Array Field):Option (List (Nat×Nat)):=fs.toList.mapM (fun f=>(P.info? f.type).map fun i=>(f.offset,i.size))
def partsOf (places:List (Nat×Nat)):List (Nat×Operand)→Option (List (Nat×Nat×X))
 | []=>some []
 | (i,y)::r=>match places[i]?,partsOf places r with
  | some (o,s),some l=>some ((o,s,X.of y)::l)
  | _,_=>none

def flatK (P:Program):Nat→List Field→Option (List Nat)
 | _,[]=>some []
 | i, f :: r => if f.offset = i ∧ f.name ≠ "_" ∧ aggB P f.type = some false then
   match P.underlying f.type,flatK P (i+1) r with
   | some (.int _),some l=>some (0::l)
   | some .bool,some l=>some (1::l)
   | _,_=>none
  else none

def flatK2 (P:Program):Nat→List Field→Option (List Nat)
 | _,[]=>some []
 | i, f :: r => if f.offset = i ∧ f.name ≠ "_" then
   match aggB P f.type with
   | some false=>match P.underlying f.type,flatK2 P (i+1) r with
    | some (.int _),some l=>some (0::l)
    | some .bool,some l=>some (1::l)
    | _,_=>none
   | some true=>match P.underlying f.type,P.info? f.type,P.stoodInHeld f.type with
    | some (.struct gs),some inf,false=>match flatK P 0 gs.toList with
     | some ks=>if inf.size=ks.length then (match flatK2 P (i+ks.length) r with
      | some l=>some (ks++l)
      | none=>none) else none
     | none=>none
    | _,_,_=>none
   | none=>none
  else none

def mtag (P:Program) (t:TypeId):Option (Nat×List Nat×Nat×Bool×List D) :=
 match P.underlying t with
 | some (.map k e)=>match P.underlying k,P.info? k,aggB P e,P.info? e with
  | some (.struct fs),some ik,some g,some ie=>match flatK P 0 fs.toList,ie.zero with
   | some ks,some z=>match D.ofs z.cells.toList with
    | some zd=>if ik.size=ks.length∧0<ks.length∧0<ie.size∧ie.size<64∧(g=true∨ie.size=1)∧zd.length=ie.size∧P.stoodInHeld k=false∧zeroAgg z=g then some (1000000+(128*ks.length+2*ie.size+(if g then 1 else 0)),ks,ie.size,g,zd) else none
    | none=>none
   | _,_=>none
  | _,_,_,_=>none
 | _=>none

def strMap (P:Program) (t:TypeId):Bool :=
 match P.underlying t with
 | some (.map k e)=>match P.underlying k,P.info? e with
  | some .string,some ie=>match ie.zero with
   | some (.int .i64 n)=>n==0
   | _=>false
  | _,_=>false
 | _=>false
def zv1:Value→Option V
 | .map none=>some .junk
 | .chan none=>some .junk
 | v=>(D.of1 v).map .d
def zvs:List Value→Option (List V)
 | []=>some []
 | v::l=>match zv1 v,zvs l with
  | some x,some r=>some (x::r)
  | _,_=>none
def zeroVs (P:Program) (t:TypeId):Option (List V):=(P.info? t).bind fun i=>i.zero.bind fun z=>zvs z.cells.toList
def sfind (s:ByteArray):List D→Option (Option Nat)
 | []=>some none
 | .str t::.int .i64 _::r=>if s=t then some (some 0) else (sfind s r).map fun x=>x.map (·+1)
 | _=>none
def sgetD (l:List D) (i:Nat):D:=l.getD (i*2+1) default

def rEq (P:Program) (op:BinOp) (t:TypeId) (x y:Operand):A :=
 match P.underlying t with
 | some (.int _) | some .string=>.bin op (X.of x) (X.of y)
 | some .bool=>.beq (op==.neq) (X.of x) (X.of y)
 | some (.slice _)=>match y with
  | .const (.slice none _ _)=>.snl (op==.neq) (X.of x)
  | _=>.bad
 | some (.interface _)=>match y with
  | .const .nilIface=>.inl (op==.neq) (X.of x)
  | _=>.bad
 | some (.pointer e)=>match y with
  | .const (.pointer none)=>.pnl (op==.neq) (X.of x)
  | _=>match P.info? e with
   | some _=>.peq (op==.neq) (X.of x) (X.of y)
   | none=>.bad
 | some (.struct fs)=>match P.stoodInHeld t,P.eqGuardType P.depth t,flatK2 P 0 fs.toList with
  | false,false,some ks=>.aeq (op==.neq) ks (X.of x) (X.of y)
  | _,_,_=>.bad
 | _=>.bad

def rBin (P:Program) (op:BinOp) (t:TypeId) (x y:Operand):A :=
 match op with
 | .eql | .neq=>rEq P op t x y
 | _=>.bin op (X.of x) (X.of y)

def resolve (P:Program) (o:Oper):A :=
 match o.op with
 | .move x | .assign x=>.mv (X.of x)
 | .pick c a b=>.pick (X.of c) (X.of a) (X.of b)
 | .alloc e=>match zeroOf P e with
  | some z=>if e<1000000 then .new e z else .bad
  | none=>match P.info? e with
   | some i=>match i.zero with
    | some (.map none)=>if e<1000000 then .newj e else .bad
    | _=>.bad
   | none=>.bad
 | .box e x=>if e<1000000 then .box e (X.of x) else .bad
 | .build t ps=>match P.underlying t,zeroOf P t with
  | some (.struct fs),some z=>match fieldsOf P fs with
   | some pl=>match partsOf pl ps.toList with
    | some l=>.build z l
    | none=>.bad
   | none=>.bad
  | some (.array n e),some z=>match P.info? e with
   | some j=>match partsOf ((List.range n).map fun i=>(i*j.size,j.size)) ps.toList with
    | some l=>.build z l
    | none=>.bad
   | none=>.bad
  | some (.struct fs),none=>match zeroVs P t,fieldsOf P fs with
   | some zs,some pl=>match partsOf pl ps.toList with
    | some l=>.bldj zs l
    | none=>.bad
   | _,_=>.bad
  | _,_=>.bad
 | .load t x=>match aggB P t,P.info? t with
  | some g,some i=>.load g i.size (X.of x)
  | _,_=>.bad
 | .store t x y=>match P.info? t with
  | some i=>.store i.size (X.of x) (X.of y)
  | none=>.bad
 | .nilCheck x=>.chk (X.of x)
 | .binOp op t x y _=>rBin P op t x y
 | .unOp op _ x=>.un op (X.of x)
 | .convert src dst x=>match P.underlying src,P.underlying dst with
  | some (.int _),some (.int k)=>.conv k (X.of x)
  | some .string,some .string=>.cstr (X.of x)
  | some (.slice e),some .string=>match P.underlying e with
   | some (.int .u8)=>.bstr (X.of x)
   | _=>.bad
  | some (.pointer t),some .unsafePointer=>match P.info? t with
   | some j=>if j.size=0 then .bad else .tou (X.of x)
   | none=>.bad
  | some .unsafePointer,some (.pointer u)=>match P.info? u with
   | some _=>.fru u (X.of x)
   | none=>.bad
  | _,_=>.bad
 | .makeInterface t x=>match P.underlying t with
  | some (.interface _) | none=>.bad
  | some _=>.ifc t (X.of x)
 | .makeFunc fn first caps=>if first.size=0 then .mkf fn (caps.toList.map X.of) else if caps.size=0 then .mkb fn (first.toList.map X.of) else .bad
 | .makeSlice t n c=>match P.underlying t with
  | some (.slice e)=>match P.info? e with
   | some i=>match i.zero with
    | some z=>match D.ofs z.cells.toList with
     | some l=>if l.length=i.size∧e<1000000 then .mksl e i.size i.bytes l (X.of n) (X.of c) else .bad
     | none=>.bad
    | none=>.bad
   | none=>.bad
  | _=>.bad
 | .fieldAddr t x f=>match P.underlying t with
  | some (.struct fs)=>match fs[f]? with
   | some g=>match P.info? g.type with
    | some i=>if i.size=0 then .bad else .fa g.offset (X.of x)
    | none=>.bad
   | none=>.bad
  | _=>.bad
 | .field t x f=>match P.underlying t with
  | some (.struct fs)=>match fs[f]? with
   | some g=>match aggB P g.type,P.info? g.type with
    | some b,some i=>.fld b g.offset i.size (X.of x)
    | _,_=>.bad
   | none=>.bad
  | _=>.bad
 | .indexAddr t x i=>match P.underlying t with
  | some (.slice e)=>match P.info? e with
   | some j=>.ix j.size (X.of x) (X.of i)
   | none=>.bad
  | some (.array n e)=>match P.info? e with
   | some j=>match x with
    | .global g=>match tab g with
     | some l=>.gix l n j.size (X.of i)
     | none=>.bad
    | _=>.ixa n j.size (X.of x) (X.of i)
   | none=>.bad
  | _=>.bad
 | .extract x i=>.ext (X.of x) i
 | .index t x i=>match P.underlying t with
  | some .string=>.gstr (X.of x) (X.of i)
  | some (.array n e)=>match aggB P e,P.info? e with
   | some q,some j=>.ixv n j.size q (X.of x) (X.of i)
   | _,_=>.bad
  | _=>.bad
 | .slice t x lo hi mx=>match P.underlying t with
  | some (.slice e)=>match P.info? e with
   | some j=>.slice j.size (X.of x) (lo.map X.of) (hi.map X.of) (mx.map X.of)
   | none=>.bad
  | some .string=>if mx.isNone then .sstr (X.of x) (lo.map X.of) (hi.map X.of) else .bad
  | some (.array n e)=>match mx,P.info? e with
   | none,some j=>.sla n j.size (X.of x) (lo.map X.of) (hi.map X.of)
   | _,_=>.bad
  | _=>.bad
 | .buildSlice t n ps=>match P.underlying t with
  | some (.slice e)=>match P.info? e with
   | some j=>match j.zero with
    | some z=>if n=0∧ps.size=0 then .bsl0 else if n*j.size=0∨16777216<n*j.size∨1000000≤e then .bad else
     match D.ofs (madeCells z.cells (n*j.size)).toList,partsOf ((List.range n).map fun i=>(i*j.size,j.size)) ps.toList with
     | some l,some r=>.bsl e j.size n l r
     | _,_=>.bad
    | none=>.bad
   | none=>.bad
  | _=>.bad
 | .call c=>match c.callee with
  | .value (.func f)=>.call f (c.args.toList.map X.of)
  | .value f=>.callv (X.of f) (c.args.toList.map X.of)
  | .invoke r name=>.inv (X.of r) name (c.args.toList.map X.of)
  | .builtin .len=>match c.argTypes[0]?.bind P.underlying,c.args[0]? with
   | some .string,some x=>.lens (X.of x)
   | some (.slice _),some x=>.len (X.of x)
   | _,_=>.bad
  | .builtin .append=>match c.argTypes.toList,c.args.toList with
   | [t,u],[x,y]=>match P.underlying t,P.underlying u with
    | some (.slice e),some (.slice _)=>match P.info? e with
     | some i=>match i.zero with
      | some z=>if z.cells.size=i.size∧e<1000000 then .app e i.size i.bytes (X.of x) (X.of y) else .bad
      | none=>.bad
     | none=>.bad
    | some (.slice e),some .string=>match P.info? e with
     | some i=>match i.zero with
      | some z=>if i.size=1∧z.cells.size=i.size∧e<1000000 then .apps e i.size i.bytes (X.of x) (X.of y) else .bad
      | none=>.bad
     | none=>.bad
    | some (.slice e),some (.int .i64)=>match P.info? e with
     | some i=>match i.zero with
      | some z=>match D.ofs z.cells.toList with
       | some l=>if l.length=i.size∧z.cells.size=i.size∧e<1000000 then .appz e i.size i.bytes l (X.of x) (X.of y) else .bad
       | none=>.bad
      | none=>.bad
     | none=>.bad
    | _,_=>.bad
   | _,_=>.bad
  | .builtin .cap=>match c.argTypes[0]?.bind P.underlying,c.args[0]? with
   | some (.slice _),some x=>.capn (X.of x)
   | _,_=>.bad
  | .builtin .copy=>match c.argTypes.toList,c.args.toList with
   | [t,u],[x,y]=>match P.underlying t,P.underlying u with
    | some (.slice e),some (.slice _)=>match P.info? e with
     | some i=>.cpy i.size (X.of x) (X.of y)
     | none=>.bad
    | _,_=>.bad
   | _,_=>.bad
  | .builtin .unsafeSliceData=>match c.args.toList with
   | [x]=>.sdat (X.of x)
   | _=>.bad
  | .builtin .unsafeString=>match c.argTypes.toList,c.args.toList with
   | [t,_],[x,y]=>match P.underlying t with
    | some (.pointer e)=>if P.cellsOf e=1∧e<1000000 then .ustr e (X.of x) (X.of y) else .bad
    | _=>.bad
   | _,_=>.bad
  | .builtin .max=>.mm true (c.args.toList.map X.of)
  | .builtin .min=>.mm false (c.args.toList.map X.of)
  | _=>.bad
 | .makeMap t none=>match mtag P t with
  | some (T,_)=>.mkm T
  | none=>if strMap P t=true then .mkS else .bad
 | .makeChan t x=>match P.underlying t with
  | some (.chan _ e)=>match P.info? e with
   | some i=>.mkc i.bytes (X.of x)
   | none=>.bad
  | _=>.bad
 | .lookup t x k false=>match mtag P t with
  | some (T,ks,vw,g,z)=>.mget T ks vw g z (X.of x) (X.of k)
  | none=>.bad
 | .lookup t x k true=>if strMap P t=true then .mgS (X.of x) (X.of k) else .bad
 | .mapUpdate t x k v | .insert t x k v=>match mtag P t with
  | some (T,ks,vw,g,_)=>.mput T ks vw g (X.of x) (X.of k) (X.of v)
  | none=>if strMap P t=true then .mpS (X.of x) (X.of k) (X.of v) else .bad
 | .mapEntry t x k=>match mtag P t with
  | some (T,ks,vw,g,z)=>.ment T ks vw g z (X.of x) (X.of k)
  | none=>.bad
 | .entryStore t x s v=>match mtag P t with
  | some (T,ks,vw,g,_)=>.esto T ks vw g (X.of x) (X.of s) (X.of v)
  | none=>.bad
 | .range t x=>match mtag P t with
  | some (T,ks,vw,_,_)=>.mrng T (ks.length+vw) (X.of x)
  | none=>.bad
 | .next x false=>.mnx (X.of x)
 | .entry x=>.mety (X.of x)
 | _=>.bad

def need (p q:Prop):Prop:=p∧q
theorem need.of {p q:Prop} (h:p) (k:q):need p q:=⟨h,k⟩

def fillV:List V→List (Nat×Nat×V)→Option (List V)
 | l,[]=>some l
 | l,(o,s,x)::r=>match x.cells? with
  | some c=>if c.length=s∧o+s≤l.length then fillV (setMany l o c) r else none
  | none=>none

def binInt (op:BinOp) (k:IntKind) (a:Int) (k':IntKind) (b:Int) (K:D→Prop):Prop :=
 match op with
 | .shl=>need (0≤b∧b≤k.bits) (K (.int k (k.wrap (a*2^b.toNat))))
 | .shr=>need (0≤b∧b≤k.bits) (K (.int k (a/2^b.toNat)))
 | .add=>k=k'∧K (.int k (k.wrap (a+b)))
 | .sub=>k=k'∧K (.int k (k.wrap (a-b)))
 | .mul=>k=k'∧K (.int k (k.wrap (a*b)))
 | .quo=>need (k=k'∧b≠0) (K (.int k (k.wrap (a.tdiv b))))
 | .rem=>need (k=k'∧b≠0) (K (.int k (a.tmod b)))
 | .and=>k=k'∧K (.int k (bits .and k a b))
 | .or=>k=k'∧K (.int k (bits .or k a b))
 | .xor=>k=k'∧K (.int k (bits .xor k a b))
 | .andNot=>k=k'∧K (.int k (bits .andNot k a b))
 | .eql=>k=k'∧K (.bool (a==b))
 | .neq=>k=k'∧K (.bool (a != b))
 | .lss=>k=k'∧K (.bool (decide (a<b)))
 | .leq=>k=k'∧K (.bool (decide (a≤b)))
 | .gtr=>k=k'∧K (.bool (decide (b<a)))
 | .geq=>k=k'∧K (.bool (decide (b≤a)))
def binStr (op:BinOp) (a b:ByteArray) (K:D→Prop):Prop :=
 match op with
 | .add=>need (a.size+b.size≤9223372036854775807) (K (.str (a++b)))
 | .eql=>K (.bool (a.toList==b.toList))
 | .neq=>K (.bool (!(a.toList==b.toList)))
 | _=>False

def intOf?:V→Option Int
 | .d (.int _ n)=>some n
 | _=>none
def repl (n:Nat):List D→List V
 | [x]=>List.replicate n (.d x)
 | z=>(List.replicate n (z.map V.d)).flatten

def bnd (T:List V) (n:Int):Option X→Option Int
 | none=>some n
 | some x=>intOf? (x.ev T)

def minmaxR (mx:Bool) (k:IntKind) (n:Int):List V→Option (IntKind×Int)
 | []=>some (k,n)
 | .d (.int k' m)::r=>if k=k' then minmaxR mx k (if mx then max n m else min n m) r else none
 | _=>none
def minmaxI (mx:Bool):List V→Option (IntKind×Int)
 | .d (.int k n)::r=>minmaxR mx k n r
 | _=>none

def sliceS (s:Nat) (x:V) (a b:Option Int) (mx:Option (Option Int)) (K:V→Prop):Prop :=
 match x,a,b,mx with
 | .d (.sl n l),some a,some b,none=>need (0≤a∧a≤b∧b≤n) (K (.d (.sl (b-a).toNat ((l.drop (a.toNat*s)).take ((b-a).toNat*s)))))
 | .d (.sl n l),some a,some b,some (some c)=>need (0≤a∧a≤b∧b≤c∧c≤n) (if a=0∧c=0 then K (.d .sl0) else if a=0∧b=c then K (.d (.slf b.toNat (l.take (b.toNat*s)))) else K (.d (.sl (b-a).toNat ((l.drop (a.toNat*s)).take ((b-a).toNat*s)))))
 | .own m s' n,some a,some b,none=>need (s'=s∧0≤a∧a≤b∧b≤n) (K (.row m (a.toNat*s) (b-a).toNat))
 | .row m o n,some a,some b,none=>need (0≤a∧a≤b∧b≤n) (K (.row m (o+a.toNat*s) (b-a).toNat))
 | .d .nilsl,some a,some b,none=>need (a=0∧b=0) (K (.d .nilsl))
 | _,_,_,_=>False
def lenV:V→Option Int
 | .d (.sl n _)=>some n
 | .d .nilsl=>some 0
 | .d .sl0=>some 0
 | .d .sle=>some 0
 | .own _ _ n=>some n
 | .row _ _ n=>some n
 | _=>none

def srcV (s:Nat) (H:List (Option Ob)):V→Option (Nat×List V×List Nat)
 | .d (.sl k l)=>some (k,l.map .d,[])
 | .d .nilsl | .d .sl0=>some (0,[],[])
 | .d .sle=>some (0,[],[])
 | .own n s' k=>if s'=s then (H.getD n none).bind fun ob=>if ob.T<1000000 then some (k,ob.c.take (k*s),[n]) else none else none
 | .row n off k=>(H.getD n none).bind fun ob=>if ob.T<1000000 then some (k,(ob.c.drop off).take (k*s),[n]) else none
 | _=>none
def intsV:List V→Option (List Int)
 | []=>some []
 | .d (.int .u8 n)::l=>(intsV l).map (n::·)
 | _=>none
def strOf (ns:List Int):ByteArray:=⟨(ns.map fun n=>UInt8.ofNat n.toNat).toArray⟩
def byteIs (ns:List Int):Bool:=ns.all fun n=>decide (0≤n)&&decide (n<256)
def bytesV (b:ByteArray):List V:=b.data.toList.map fun x=>.d (.int .u8 (x.toNat:Int))
def dstV (s:Nat):V→Option (Nat×Nat×Nat)
 | .own n s' q=>if s'=s then some (n,0,q) else none
 | .row n off q=>some (n,off,q)
 | _=>none
def eqK:Nat→D→D→Option Bool
 | 0,.int k a,.int k' b=>if k=k' then some (a==b) else none
 | 1,.bool a,.bool b=>some (a==b)
 | _,_,_=>none
def eqKs:List Nat→List D→List D→Option Bool
 | [],[],[]=>some true
 | k::ks,x::l,y::r=>match eqK k x y,eqKs ks l r with
  | some a,some b=>some (a&&b)
  | _,_=>none
 | _,_,_=>none

def seenOf:List V→Option (List Nat)
 | []=>some []
 | .d (.int .i64 i)::l=>if 0≤i then (seenOf l).map (i.toNat::·) else none
 | _=>none
def iterV (ob:Ob):Option (Nat×Nat×List Nat):=if ob.T=1000000 then (match ob.c with
 | .mp k::.d (.int .i64 n)::r=>(seenOf r).map fun l=>(k,n.toNat,l)
 | _=>none) else none
def tagK (T:Nat):Nat:=(T-1000000)/128
def tagV (T:Nat):Nat:=(T-1000000)/2%64
def tagG (T:Nat):Bool:=(T-1000000)%2==1
def D.isAgg:D→Bool
 | .agg _=>true
 | _=>false
def mfind (ks:List Nat) (vw:Nat) (kl:List D):Nat→List D→Option (Option Nat)
 | 0,_=>some none
 | n+1,ds=>match eqKs ks kl (ds.take ks.length) with
  | some true=>some (some 0)
  | some false=>(mfind ks vw kl n (ds.drop (ks.length+vw))).map fun o=>o.map (·+1)
  | none=>none
def glD (g:Bool) (l:List D):D:=if g then .agg l else l.headD default
def mlook (ks:List Nat) (vw:Nat) (g:Bool) (z kl ds:List D):Option D :=
 (mfind ks vw kl (ds.length/(ks.length+vw)) ds).map fun
  | some i=>glD g ((ds.drop (i*(ks.length+vw)+ks.length)).take vw)
  | none=>glD g z
def mset (ks:List Nat) (vw:Nat) (kl dv ds:List D):Option (List D) :=
 (mfind ks vw kl (ds.length/(ks.length+vw)) ds).map fun
  | some i=>ds.take (i*(ks.length+vw))++(kl++dv)++ds.drop ((i+1)*(ks.length+vw))
  | none=>ds++(kl++dv)

def mentD (ks:List Nat) (vw:Nat) (g:Bool) (z kl ds:List D):Option (D×Nat×List D) :=
 (mfind ks vw kl (ds.length/(ks.length+vw)) ds).map fun
  | some i=>(glD g ((ds.drop (i*(ks.length+vw)+ks.length)).take vw),i,ds.take (i*(ks.length+vw))++(kl++(ds.drop (i*(ks.length+vw)+ks.length)).take vw)++ds.drop ((i+1)*(ks.length+vw)))
  | none=>(glD g z,ds.length/(ks.length+vw),ds++(kl++z))
def estoD (kw vw j:Nat) (dv ds:List D):List D:=ds.take (j*(kw+vw))++((ds.drop (j*(kw+vw))).take kw++dv)++ds.drop ((j+1)*(kw+vw))

def X.slotss (l:List X):List Nat:=l.flatMap X.slots
def optS:Option X→List Nat
 | some x=>x.slots
 | none=>[]
def A.slots:A→List Nat
 | .mv x | .bstr x | .tou x | .fru _ x | .sdat x | .gix _ _ _ x | .box _ x | .load _ _ x | .chk x | .un _ x | .conv _ x | .cstr x | .ifc _ x | .fa _ x | .fld _ _ _ x | .ext x _ | .len x | .capn x | .lens x | .snl _ x | .inl _ x | .pnl _ x | .mrng _ _ x | .mkc _ x | .mnx x | .mety x=>x.slots
 | .pick c a b=>c.slots++(a.slots++b.slots)
 | .new .. | .bad | .bsl0 | .mkm _ | .newj _ | .mkS=>[]
 | .build _ ps | .bldj _ ps | .bsl _ _ _ _ ps=>ps.flatMap fun p=>p.2.2.slots
 | .store _ x y | .bin _ x y | .peq _ x y | .apps _ _ _ x y | .ustr _ x y | .beq _ x y | .app _ _ _ x y | .appz _ _ _ _ x y | .cut _ x y | .cpy _ x y | .aeq _ _ x y | .mksl _ _ _ _ x y | .ix _ x y | .ixa _ _ x y | .ixv _ _ _ x y | .gstr x y | .mget _ _ _ _ _ x y | .mgS x y | .ment _ _ _ _ _ x y=>x.slots++y.slots
 | .mput _ _ _ _ x y v | .mpS x y v | .esto _ _ _ _ x y v=>x.slots++(y.slots++v.slots)
 | .mkf _ xs | .mkb _ xs | .call _ xs | .mm _ xs=>X.slotss xs
 | .callv x xs | .inv x _ xs=>x.slots++X.slotss xs
 | .slice _ x a b c=>x.slots++(optS a++(optS b++optS c))
 | .sstr x a b | .sla _ _ x a b=>x.slots++(optS a++optS b)
end
section
open Go.RowKit
mutual
def V.ren (θ:Nat→Nat):V→V
 | .d x=>.d x
 | .agg l=>.agg (V.rens θ l)
 | .tup l=>.tup (V.rens θ l)
 | .p n off=>.p (θ n) off
 | .row n off len=>.row (θ n) off len
 | .own n s len=>.own (θ n) s len
 | .mp n=>.mp (θ n)
 | .ch n=>.ch (θ n)
 | .fn f caps=>.fn f (V.rens θ caps)
 | .fb f caps=>.fb f (V.rens θ caps)
 | .junk=>.junk
def V.rens (θ:Nat→Nat):List V→List V
 | []=>[]
 | x::l=>x.ren θ::V.rens θ l
def V.low (k:Nat):V→Bool
 | .d _ | .junk=>true
 | .agg l | .tup l | .fn _ l | .fb _ l=>V.lowl k l
 | .p n _ | .row n _ _ | .own n _ _ | .mp n | .ch n=>decide (n<k)
def V.lowl (k:Nat):List V→Bool
 | []=>true
 | x::l=>x.low k&&V.lowl k l
end

mutual
theorem V.rep_ren {m m':Mem} {θ:Nat→Nat} {k:Nat} (hI:m'.I=m.I) (hw:m'.w=m.w) (hρ:∀n,n<k→m'.ρ n=m.ρ (θ n)):∀(x:V) (v:Value),x.low k=true→((x.ren θ).rep m v↔x.rep m' v)
 | .d x,v,_=>by simp only [V.ren,V.rep,hI,hw]
 | .agg l,v,h=>by
  simp only [V.low] at h
  simp only [V.ren,V.rep]
  exact exists_congr fun vs=>and_congr Iff.rfl (and_congr Iff.rfl (V.reps_ren hI hw hρ l vs h))
 | .tup l,v,h=>by
  simp only [V.low] at h
  simp only [V.ren,V.rep]
  exact exists_congr fun vs=>and_congr Iff.rfl (V.reps_ren hI hw hρ l vs h)
 | .p n off,v,h=>by
  simp only [V.low,decide_eq_true_eq] at h
  simp only [V.ren,V.rep,hρ n h]
 | .row n off len,v,h=>by
  simp only [V.low,decide_eq_true_eq] at h
  simp only [V.ren,V.rep,hρ n h]
 | .own n s len,v,h=>by
  simp only [V.low,decide_eq_true_eq] at h
  simp only [V.ren,V.rep,hρ n h,hw]
 | .mp n,v,h=>by
  simp only [V.low,decide_eq_true_eq] at h
  simp only [V.ren,V.rep,hρ n h]
 | .ch n,v,h=>by
  simp only [V.low,decide_eq_true_eq] at h
  simp only [V.ren,V.rep,hρ n h]
 | .fn f l,v,h=>by
  simp only [V.low] at h
  simp only [V.ren,V.rep]
  exact exists_congr fun vs=>and_congr Iff.rfl (V.reps_ren hI hw hρ l vs h)
 | .fb f l,v,h=>by
  simp only [V.low] at h
  simp only [V.ren,V.rep]
  exact exists_congr fun vs=>and_congr Iff.rfl (V.reps_ren hI hw hρ l vs h)
 | .junk,v,_=>by simp only [V.ren,V.rep]
theorem V.reps_ren {m m':Mem} {θ:Nat→Nat} {k:Nat} (hI:m'.I=m.I) (hw:m'.w=m.w) (hρ:∀n,n<k→m'.ρ n=m.ρ (θ n)):∀(l:List V) (vs:List Value),V.lowl k l=true→(V.reps m (V.rens θ l) vs↔V.reps m' l vs)
 | [],vs,_=>by simp only [V.rens,V.reps]
 | x::l,vs,h=>by
  simp only [V.lowl,Bool.and_eq_true] at h
  simp only [V.rens,V.reps]
  exact exists_congr fun v=>exists_congr fun r=>and_congr Iff.rfl (and_congr (V.rep_ren hI hw hρ x v h.1) (V.reps_ren hI hw hρ l r h.2))
end

structure EndOK (m:Mem) (k:Nat) (X:V) (Hs':List Ob) (dead:List Nat) (v:Value) (m':Mem):Prop where
 base:m'.base
 le:m.le m' (· < k)
 rep:X.rep m' v
 obj:∀n ob,n∉dead→Hs'[n]?=some ob→m'.obj n ob
 inj:∀n i b,n∉dead→i∉dead→n<Hs'.length→i<Hs'.length→m'.ρ n=some b→m'.ρ i=some b→n=i
 top:∀n,Hs'.length≤n→m'.ρ n=none
 new:∀n b,k≤n→m'.ρ n=some b→m.w.heap.size≤b∨∃i,i<k∧i∈dead∧m.ρ i=some b

structure EqnD (P:Program) (f:FuncId) (args:List V) (Hs:List Ob) (X:V) (Hs':List Ob) (dead:List Nat):Prop where
 len:Hs.length≤Hs'.length
 old:∀n∈dead,n<Hs.length
 lowx:X.low Hs'.length=true
 lowo:∀ob∈Hs',V.lowl Hs'.length ob.c=true
 run:∀(m:Mem) (vs:List Value),m.base→V.reps m args vs→(∀n ob,Hs[n]?=some ob→m.obj n ob) →
  (∀n i b,n<Hs.length→i<Hs.length→m.ρ n=some b→m.ρ i=some b→n=i)→(∀n,Hs.length≤n→m.ρ n=none) →
  (∃v,(callFunc f vs.toArray).run P m.w = .ok (.value v) m.w∧X.rep m v∧Hs'=Hs) ∨
  ((callFunc f vs.toArray).run P m.w = .ok (.enter f vs.toArray) m.w∧Calls P f vs.toArray m.w fun e w'=>∃v m',m'.w=w'∧e = .returned v∧EndOK m Hs.length X Hs' dead v m')

abbrev Eqn (P:Program) (f:FuncId) (args:List V) (Hs:List Ob) (X:V) (Hs':List Ob):Prop:=EqnD P f args Hs X Hs' []

def Subs (args args':List V):Prop:=∀m vs,V.reps m args vs→V.reps m args' vs
theorem Subs.refl (l:List V):Subs l l:=fun _ _ h=>h

def putAll (H:List (Option Ob)):List Nat→List Ob→List (Option Ob)
 | [],new=>H++new.map some
 | n::θ,ob::r=>putAll (H.set n (some ob)) θ r
 | _::_,[]=>H

def killAll (H:List (Option Ob)) (θ:List Nat):List Nat→List (Option Ob)
 | []=>H
 | i::r=>killAll (H.set (θ.getD i 0) none) θ r

def nameOf (θ:List Nat) (L:Nat) (i:Nat):Nat:=if i<θ.length then θ.getD i 0 else L+(i-θ.length)

mutual
def V.frz (n s:Nat) (ds:List D):V→V
 | .own k s' len=>if k=n then (if s'=s then .d (.sl len (ds.take (len*s))) else .junk) else .own k s' len
 | .row k off len=>if k=n then .d (.sl len ((ds.drop off).take (len*s))) else .row k off len
 | .p k off=>if k=n then .ia ds off else .p k off
 | .agg l=>.agg (V.frzs n s ds l)
 | .tup l=>.tup (V.frzs n s ds l)
 | .mp k=>.mp k
 | .ch k=>.ch k
 | .fn f l=>.fn f (V.frzs n s ds l)
 | .fb f l=>.fb f (V.frzs n s ds l)
 | .d x=>.d x
 | .junk=>.junk
def V.frzs (n s:Nat) (ds:List D):List V→List V
 | []=>[]
 | x::l=>x.frz n s ds::V.frzs n s ds l
end

def CallS0 (P:Program) (f:FuncId) (args:List V) (H:List (Option Ob)) (K:V→List (Option Ob)→List Nat→List Nat→Prop):Prop :=
 ∃(θ:List Nat) (argsC:List V) (Hs:List Ob) (X:V) (Hs':List Ob) (dead:List Nat),EqnD P f argsC Hs X Hs' dead∧θ.length=Hs.length∧θ.Nodup∧(∀n∈θ,n<H.length) ∧
  (∀i ob,Hs[i]?=some ob→V.lowl Hs.length ob.c=true∧H.getD (θ.getD i 0) none=some ⟨ob.T,V.rens (nameOf θ H.length) ob.c⟩) ∧
  V.lowl Hs.length argsC=true∧Subs args (V.rens (nameOf θ H.length) argsC) ∧
  K (X.ren (nameOf θ H.length)) (killAll (putAll H θ (Hs'.map fun ob=>⟨ob.T,V.rens (nameOf θ H.length) ob.c⟩)) θ dead) [] (θ++(List.range (Hs'.length-Hs.length)).map (H.length + ·))

mutual
def D.stab:D→Bool
 | .int _ _ | .bool _ | .str _ | .nilsl | .nilifc | .nilp | .nilfn=>true
 | .agg l=>D.stabs l
 | .ifc _ d=>d.stab
 | .sl _ _ | .slf _ _ | .sl0 | .sle | .ptr _ _=>false
def D.stabs:List D→Bool
 | []=>true
 | x::l=>x.stab&&D.stabs l
end
mutual
def V.stab:V→Bool
 | .d x=>x.stab
 | .agg l=>V.stabs l
 | .tup l=>V.stabs l
 | _=>false
def V.stabs:List V→Bool
 | []=>true
 | x::l=>x.stab&&V.stabs l
end
def frzH (n s:Nat) (ds:List D) (H:List (Option Ob)):List (Option Ob):=(H.map fun o=>o.map fun ob=>⟨ob.T,V.frzs n s ds ob.c⟩).set n none
def frzL:List (Nat×Nat×List D)→List V→List V
 | [],l=>l
 | (n,s,ds)::r,l=>frzL r (V.frzs n s ds l)
def frzOK:List (Option Ob)→List (Nat×Nat×List D)→Prop
 | _,[]=>True
 | H,(n,s,ds)::r=>(∃ob,H.getD n none=some ob∧ob.T<1000000∧ob.c=ds.map .d)∧frzOK (frzH n s ds H) r
def CallRO (P:Program) (f:FuncId) (args:List V) (H:List (Option Ob)) (K:V→List (Option Ob)→List Nat→List Nat→Prop):Prop :=
 ∃(ns:List (Nat×Nat×List D)) (argsC:List V) (X:V),EqnD P f argsC [] X [] []∧X.stab=true∧V.lowl 0 argsC=true∧Subs (frzL ns args) argsC∧frzOK H ns∧K X H (ns.map (·.1)) []

def CallF (P:Program) (f:FuncId) (args:List V) (H:List (Option Ob)) (K:V→List (Option Ob)→List Nat→List Nat→Prop):Prop :=
 CallS0 P f args H K∨∃(n s:Nat) (ob:Ob) (ds:List D),H.getD n none=some ob∧ob.T<1000000∧ob.c=ds.map V.d∧CallS0 P f (V.frzs n s ds args) (H.set n none) fun X H' rd wr=>K X H' rd (n::wr)
def CallS (P:Program) (f:FuncId) (args:List V) (H:List (Option Ob)) (K:V→List (Option Ob)→List Nat→List Nat→Prop):Prop :=
 CallS0 P f args H K∨(∃(n s:Nat) (ob:Ob) (ds:List D),H.getD n none=some ob∧ob.T<1000000∧ob.c=ds.map V.d∧CallF P f (V.frzs n s ds args) (H.set n none) fun X H' rd wr=>K X H' rd (n::wr))∨CallRO P f args H K

def MethOK (P:Program) (t:TypeId) (name:String) (g:FuncId):Prop:=∀(v:Value) (w:World),(method (P.types.size+Made.depth) t v name).run P w = .ok (g,v) w

def hiOf (T:List V) (x:V) (mx:Bool):Option X→Option Int
 | some h=>intOf? (h.ev T)
 | none=>if mx then none else lenV x

def A.step (P:Program) (T:List V) (H:List (Option Ob)) (K:V→List (Option Ob)→List Nat→List Nat→Prop):A→Prop
 | .mv x=>K (x.ev T) H [] []
 | .pick c a b=>match c.ev T with
  | .d (.bool t)=>K (if t then a.ev T else b.ev T) H [] []
  | _=>False
 | .new e z=>K (.p H.length 0) (H++[some ⟨e,z.map .d⟩]) [] [H.length]
 | .box e x=>match (x.ev T).cells? with
  | some c=>K (.p H.length 0) (H++[some ⟨e,c⟩]) [] [H.length]
  | none=>False
 | .build z ps=>match fillV (z.map .d) (ps.map fun p=>(p.1,p.2.1,p.2.2.ev T)) with
  | some c=>K (mkAgg c) H [] []
  | none=>False
 | .bsl e s n z ps=>match fillV (z.map .d) (ps.map fun p=>(p.1,p.2.1,p.2.2.ev T)) with
  | some c=>K (.own H.length s n) (H++[some ⟨e,c⟩]) [] [H.length]
  | none=>False
 | .load g s x=>match x.ev T with
  | .p n off=>match H.getD n none with
   | some ob=>ob.T<1000000∧if g then need (off+s≤ob.c.length) (K (mkAgg ((ob.c.drop off).take s)) H [n] []) else need (off<ob.c.length) (K (ob.c.getD off .junk) H [n] [])
   | none=>False
  | .ia l off=>if g then need (off+s≤l.length) (K (.d (.agg ((l.drop off).take s))) H [] []) else need (off<l.length) (K (.d (l.getD off default)) H [] [])
  | _=>False
 | .store s x y=>match x.ev T,(y.ev T).cells? with
  | .p n off,some c=>match H.getD n none with
   | some ob=>ob.T<1000000∧need (c.length=s∧off+s≤ob.c.length) (K .junk (H.set n (some ⟨ob.T,setMany ob.c off c⟩)) [] [n])
   | none=>False
  | _,_=>False
 | .chk x=>match x.ev T with
  | .p n o=>K (.p n o) H [] []
  | .ia l o=>K (.ia l o) H [] []
  | .fn (.func f) c=>K (.fn (.func f) c) H [] []
  | .d (.ifc t d)=>K (.d (.ifc t d)) H [] []
  | _=>False
 | .bin op x y=>match x.ev T,y.ev T with
  | .d (.int k a),.d (.int k' b)=>binInt op k a k' b fun d=>K (.d d) H [] []
  | .d (.str a),.d (.str b)=>binStr op a b fun d=>K (.d d) H [] []
  | _,_=>False
 | .beq neg x y=>match x.ev T,y.ev T with
  | .d (.bool a),.d (.bool b)=>K (.d (.bool (if neg then a != b else a==b))) H [] []
  | _,_=>False
 | .un op x=>match op,x.ev T with
  | .not,.d (.bool b)=>K (.d (.bool (!b))) H [] []
  | .neg,.d (.int k n)=>K (.d (.int k (k.wrap (0-n)))) H [] []
  | .xor,.d (.int k n)=>K (.d (.int k (bits .xor k (if k.signed then -1 else k.max) n))) H [] []
  | _,_=>False
 | .conv k x=>match x.ev T with
  | .d (.int _ n)=>K (.d (.int k (k.wrap n))) H [] []
  | _=>False
 | .cstr x=>match x.ev T with
  | .d (.str b)=>K (.d (.str b)) H [] []
  | _=>False
 | .ifc t x=>match x.ev T with
  | .d x=>K (.d (.ifc t x)) H [] []
  | _=>False
 | .mkf f cs=>K (.fn f (cs.map (X.ev T))) H [] []
 | .mksl e s bytes z n c=>match n.ev T,c.ev T with
  | .d (.int _ a),.d (.int _ b)=>need (0≤a∧a=b∧(bytes:Int)*a≤281474976710656∧a≤281474976710656∧0<s) (K (.own H.length s a.toNat) (H++[some ⟨e,repl a.toNat z⟩]) [] [H.length])
  | _,_=>False
 | .slice s x lo hi mx=>sliceS s (x.ev T) (bnd T 0 lo) (hiOf T (x.ev T) mx.isSome hi) (mx.map fun c=>intOf? (c.ev T)) fun v=>K v H [] []
 | .fa off x=>match x.ev T with
  | .p n o=>K (.p n (o+off)) H [] []
  | .ia l o=>K (.ia l (o+off)) H [] []
  | _=>False
 | .fld g off s x=>match x.ev T with
  | .d (.agg l)=>if g then need (off+s≤l.length) (K (.d (.agg ((l.drop off).take s))) H [] []) else need (off<l.length) (K (.d (l.getD off default)) H [] [])
  | .agg l=>if g then need (off+s≤l.length) (K (mkAgg ((l.drop off).take s)) H [] []) else need (off<l.length) (K (l.getD off .junk) H [] [])
  | _=>False
 | .ix s x i=>match x.ev T,i.ev T with
  | .d (.sl n l),.d (.int _ a)=>need (0≤a∧a<n∧a.toNat*s<l.length) (K (.ia l (a.toNat*s)) H [] [])
  | .own m s' n,.d (.int _ a)=>need (0≤a∧a<n∧s'=s) (K (.p m (a.toNat*s)) H [] [])
  | .row m o n,.d (.int _ a)=>need (0≤a∧a<n) (K (.p m (o+a.toNat*s)) H [] [])
  | _,_=>False
 | .ext x i=>match x.ev T with
  | .tup l=>need (i<l.length) (K (l.getD i .junk) H [] [])
  | _=>False
 | .call f xs=>CallS P f (xs.map (X.ev T)) H K
 | .callv f xs=>match f.ev T with
  | .fn (.func g) caps=>CallS P g (xs.map (X.ev T)++caps) H K
  | .fb (.func g) l=>CallS P g (l++xs.map (X.ev T)) H K
  | _=>False
 | .inv r name xs=>match r.ev T with
  | .d (.ifc t d)=>∃g,MethOK P t name g∧CallS P g (.d d::xs.map (X.ev T)) H K
  | _=>False
 | .len x=>match lenV (x.ev T) with
  | some n=>K (.d (.int .i64 n)) H [] []
  | none=>False
 | .lens x=>match x.ev T with
  | .d (.str s)=>K (.d (.int .i64 s.size)) H [] []
  | _=>False
 | .mm mx xs=>match minmaxI mx (xs.map (X.ev T)) with
  | some (k,n)=>K (.d (.int k n)) H [] []
  | none=>False
 | .app e s bytes x y=>match srcV s H (y.ev T) with
  | some (k,c,rd)=>match x.ev T with
   | .d .nilsl=>if k=0 then need (c.length=0) (K (.d .nilsl) H rd []) else need (0<s∧0<bytes∧c.length=k*s∧k*bytes≤140737488355328) (K (.own H.length s k) (H++[some ⟨e,c⟩]) rd [H.length])
   | .d .sl0=>if k=0 then need (c.length=0) (K (.d .sl0) H rd []) else need (0<s∧0<bytes∧c.length=k*s∧k*bytes≤140737488355328) (K (.own H.length s k) (H++[some ⟨e,c⟩]) rd [H.length])
   | .d (.slf q l)=>need (0<k∧0<s∧0<bytes∧l.length=q*s∧c.length=k*s∧(q+k)*bytes≤140737488355328) (K (.own H.length s (q+k)) (H++[some ⟨e,l.map .d++c⟩]) rd [H.length])
   | .own n s' q=>match H.getD n none with
    | some ob=>need (s'=s∧0<s∧0<bytes∧ob.T=e∧ob.c.length=q*s∧c.length=k*s∧(q+k)*bytes≤140737488355328) (K (.own H.length s (q+k)) (H.set n none++[some ⟨e,ob.c++c⟩]) rd [n,H.length])
    | none=>False
   | _=>False
  | none=>False
 | .appz e s bytes z x y=>match x.ev T,y.ev T with
  | .d .nilsl,.d (.int .i64 k)=>need (0<k∧0<s∧0<bytes∧k*bytes≤140737488355328) (K (.own H.length s k.toNat) (H++[some ⟨e,repl k.toNat z⟩]) [] [H.length])
  | _,_=>False
 | .capn x=>match x.ev T with
  | .d .nilsl=>K (.d (.int .i64 0)) H [] []
  | _=>False
 | .cut s x hi=>match x.ev T,hi.ev T with
  | .own n s' q,.d (.int _ b)=>match H.getD n none with
   | some ob=>need (s'=s∧0≤b∧b≤q∧ob.T<1000000) (K (.own n s b.toNat) (H.set n (some ⟨ob.T,ob.c.take (b.toNat*s)⟩)) [] [n])
   | none=>False
  | _,_=>False
 | .cpy s x y=>match srcV s H (y.ev T),dstV s (x.ev T) with
  | some (k,c,rd),some (n,off,q)=>match H.getD n none with
   | some ob=>ob.T<1000000∧need (k≤q∧c.length=k*s∧off+k*s≤ob.c.length) (K (.d (.int .i64 k)) (H.set n (some ⟨ob.T,setMany ob.c off c⟩)) rd [n])
   | none=>False
  | _,_=>False
 | .bsl0=>K (.d .sl0) H [] []
 | .ixa n s x i=>match x.ev T,i.ev T with
  | .p m o,.d (.int _ a)=>need (0≤a∧a<n) (K (.p m (o+a.toNat*s)) H [] [])
  | .ia l o,.d (.int _ a)=>need (0≤a∧a<n) (K (.ia l (o+a.toNat*s)) H [] [])
  | _,_=>False
 | .gstr x i=>match x.ev T,i.ev T with
  | .d (.str b),.d (.int _ a)=>need (0≤a∧a.toNat<b.size) (K (.d (.int .u8 (b.data.toList.getD a.toNat 0).toNat)) H [] [])
  | _,_=>False
 | .sstr x lo hi=>match x.ev T with
  | .d (.str s)=>match bnd T 0 lo,bnd T s.size hi with
   | some a,some b=>need (0≤a∧a≤b∧b≤s.size) (K (.d (.str (s.extract a.toNat b.toNat))) H [] [])
   | _,_=>False
  | _=>False
 | .gix l n s i=>match i.ev T with
  | .d (.int _ a)=>need (0≤a∧a<n) (K (.ia l (a.toNat*s)) H [] [])
  | _=>False
 | .ixv n s q x i=>match x.ev T,i.ev T with
  | .d (.agg l),.d (.int _ a)=>if q then need (0≤a∧a<n∧a.toNat*s+s≤l.length) (K (.d (.agg ((l.drop (a.toNat*s)).take s))) H [] []) else need (0≤a∧a<n∧a.toNat*s<l.length) (K (.d (l.getD (a.toNat*s) default)) H [] [])
  | .agg l,.d (.int _ a)=>if q then need (0≤a∧a<n∧a.toNat*s+s≤l.length) (K (mkAgg ((l.drop (a.toNat*s)).take s)) H [] []) else need (0≤a∧a<n∧a.toNat*s<l.length) (K (l.getD (a.toNat*s) .junk) H [] [])
  | _,_=>False
 | .bstr x=>match srcV 1 H (x.ev T) with
  | some (k,c,rd)=>match intsV c with
   | some ns=>need (c.length=k) (K (.d (.str (strOf ns))) H rd [])
   | none=>False
  | none=>False
 | .sla n s x lo hi=>match x.ev T,bnd T 0 lo,bnd T n hi with
  | .p m o,some a,some b=>need (0≤a∧a≤b∧b≤n∧n≤140737488355328) (K (.row m (o+a.toNat*s) (b-a).toNat) H [] [])
  | _,_,_=>False
 | .snl neg x=>match x.ev T with
  | .d .nilsl=>K (.d (.bool (!neg))) H [] []
  | .d (.sl n _)=>need (0<n) (K (.d (.bool neg)) H [] [])
  | .own _ _ _=>K (.d (.bool neg)) H [] []
  | .d .sle=>K (.d (.bool neg)) H [] []
  | .row _ _ _=>K (.d (.bool neg)) H [] []
  | _=>False
 | .inl neg x=>match x.ev T with
  | .d .nilifc=>K (.d (.bool (!neg))) H [] []
  | .d (.ifc _ _)=>K (.d (.bool neg)) H [] []
  | _=>False
 | .pnl neg x=>match x.ev T with
  | .d .nilp=>K (.d (.bool (!neg))) H [] []
  | .p _ _=>K (.d (.bool neg)) H [] []
  | .ia _ _=>K (.d (.bool neg)) H [] []
  | _=>False
 | .aeq neg ks x y=>match x.ev T,y.ev T with
  | .d (.agg l),.d (.agg r)=>match eqKs ks l r with
   | some b=>K (.d (.bool (if neg then !b else b))) H [] []
   | none=>False
  | _,_=>False
 | .mkm t=>K (.mp H.length) (H++[some ⟨t,[]⟩]) [] [H.length]
 | .mkS=>K (.mp H.length) (H++[some ⟨1000002,[]⟩]) [] [H.length]
 | .mkc b x=>match x.ev T with
  | .d (.int _ n)=>need (0≤n∧(b:Int)*n≤281474976710544∧n≤9223372036854775807) (K (.ch H.length) (H++[some ⟨1000001,[.d (.int .i64 n)]⟩]) [] [H.length])
  | _=>False
 | .mgS x k=>match x.ev T,k.ev T with
  | .mp n,.d (.str s)=>match H.getD n none with
   | some ob=>ob.T=1000002∧(match V.toDs ob.c with
    | some ds=>(match sfind s ds with
     | some (some i)=>K (.tup [.d (sgetD ds i),.d (.bool true)]) H [n] []
     | some none=>K (.tup [.d (.int .i64 0),.d (.bool false)]) H [n] []
     | none=>False)
    | none=>False)
   | none=>False
  | _,_=>False
 | .mpS x k v=>match x.ev T,k.ev T,v.ev T with
  | .mp n,.d (.str s),.d (.int .i64 j)=>match H.getD n none with
   | some ob=>ob.T=1000002∧(match V.toDs ob.c with
    | some ds=>(match sfind s ds with
     | some none=>ds.length%2=0∧K .junk (H.set n (some ⟨1000002,(ds++[D.str s,D.int .i64 j]).map V.d⟩)) [] [n]
     | _=>False)
    | none=>False)
   | none=>False
  | _,_,_=>False
 | .tou x=>match x.ev T with
  | .p n off=>match H.getD n none with
   | some ob=>ob.T<1000000∧need (off<ob.c.length) (K (.p n off) H [n] [])
   | none=>False
  | _=>False
 | .fru u x=>match x.ev T with
  | .p n off=>match H.getD n none with
   | some ob=>ob.T<1000000∧need (liesAt P P.depth ob.T 1 off u 1=true∧0<P.cellsOf ob.T∧P.cellsOf ob.T≤ob.c.length) (K (.p n off) H [n] [])
   | none=>False
  | _=>False
 | .mkb f xs=>K (.fb f (xs.map (X.ev T))) H [] []
 | .peq neg x y=>match x.ev T,y.ev T with
  | .p n o,.p m q=>need (n=m∧o=q) (K (.d (.bool neg.not)) H [] [])
  | _,_=>False
 | .apps e s bytes x y=>match y.ev T with
  | .d (.str b)=>match x.ev T with
   | .d .nilsl=>if b.size=0 then K (.d .nilsl) H [] [] else need (0<s∧0<bytes∧b.size*bytes≤140737488355328) (K (.own H.length s b.size) (H++[some ⟨e,bytesV b⟩]) [] [H.length])
   | .own n s' q=>match H.getD n none with
    | some ob=>need (s'=s∧0<s∧0<bytes∧ob.T=e∧ob.c.length=q*s∧(q+b.size)*bytes≤140737488355328) (K (.own H.length s (q+b.size)) (H.set n none++[some ⟨e,ob.c++bytesV b⟩]) [] [n,H.length])
    | none=>False
   | _=>False
  | _=>False
 | .sdat x=>match x.ev T with
  | .d .nilsl=>K (.d .nilp) H [] []
  | .own n _ q=>need (0<q) (K (.p n 0) H [] [])
  | _=>False
 | .ustr e x y=>match y.ev T with
  | .d (.int .i64 k)=>if k=0 then (match x.ev T with
   | .d .nilp=>K (.d (.str .empty)) H [] []
   | .p _ _=>K (.d (.str .empty)) H [] []
   | _=>False) else match x.ev T with
   | .p n 0=>match H.getD n none with
    | some ob=>match intsV (ob.c.take k.toNat) with
     | some ns=>need (0≤k∧k≤ob.c.length∧ob.T=e∧byteIs ns=true∧k≤9223372036854775807) (K (.d (.str (strOf ns))) (H.set n none) [] [n])
     | none=>False
    | none=>False
   | _=>False
  | _=>False
 | .bldj z ps=>match fillV z (ps.map fun p=>(p.1,p.2.1,p.2.2.ev T)) with
  | some c=>K (mkAgg c) H [] []
  | none=>False
 | .mget t ks vw g z x k=>match x.ev T,k.ev T with
  | .mp n,.d (.agg kl)=>match H.getD n none with
   | some ob=>ob.T=t∧kl.length=ks.length∧match V.toDs ob.c with
    | some ds=>match mlook ks vw g z kl ds with
     | some y=>K (.d y) H [n] []
     | none=>False
    | none=>False
   | none=>False
  | _,_=>False
 | .mput t ks vw g x k v=>match x.ev T,k.ev T,v.ev T with
  | .mp n,.d (.agg kl),.d y=>match H.getD n none with
   | some ob=>ob.T=t∧kl.length=ks.length∧y.isAgg=g∧match V.toDs ob.c with
    | some ds=>need (y.cells.length=vw∧ds.length%(ks.length+vw)=0) (match mset ks vw kl y.cells ds with
     | some ds'=>K .junk (H.set n (some ⟨t,ds'.map .d⟩)) [] [n]
     | none=>False)
    | none=>False
   | none=>False
  | _,_,_=>False
 | .ment t ks vw g z x k=>match x.ev T,k.ev T with
  | .mp n,.d (.agg kl)=>match H.getD n none with
   | some ob=>ob.T=t∧kl.length=ks.length∧match V.toDs ob.c with
    | some ds=>need (ds.length%(ks.length+vw)=0) (match mentD ks vw g z kl ds with
     | some (y,j,ds')=>K (.tup [.d y,.d (.int .i64 j)]) (H.set n (some ⟨t,ds'.map .d⟩)) [] [n]
     | none=>False)
    | none=>False
   | none=>False
  | _,_=>False
 | .esto t ks vw g x s v=>match x.ev T,s.ev T,v.ev T with
  | .mp n,.d (.int .i64 j),.d y=>match H.getD n none with
   | some ob=>ob.T=t∧y.isAgg=g∧match V.toDs ob.c with
    | some ds=>need (y.cells.length=vw∧0≤j∧j.toNat<ds.length/(ks.length+vw)) (K .junk (H.set n (some ⟨t,(estoD ks.length vw j.toNat y.cells ds).map .d⟩)) [] [n])
    | none=>False
   | none=>False
  | _,_,_=>False
 | .newj t=>K (.p H.length 0) (H++[some ⟨t,[.junk]⟩]) [] [H.length]
 | .mrng t w x=>match x.ev T with
  | .mp n=>match H.getD n none with
   | some ob=>ob.T=t∧K (.p H.length 0) (H++[some ⟨1000000,[.mp n,.d (.int .i64 (ob.c.length/w:Nat))]⟩]) [n] [H.length]
   | none=>False
  | _=>False
 | .mnx x=>match x.ev T with
  | .p n 0=>match H.getD n none with
   | some ob=>match iterV ob with
    | some (k,N,l)=>match H.getD k none with
     | some obk=>1000000<obk.T∧need (0<tagK obk.T∧obk.c.length/(tagK obk.T+tagV obk.T)=N) ((∀i:Nat,i<N→i∉l→K (.tup [.d (.bool true),.junk,.junk]) (H.set n (some ⟨1000000,ob.c++[.d (.int .i64 i)]⟩)) [k] [n])∧((∀i,i<N→i∈l)→K (.tup [.d (.bool false)]) H [k,n] []))
     | none=>False
    | none=>False
   | none=>False
  | _=>False
 | .mety x=>match x.ev T with
  | .p n 0=>match H.getD n none with
   | some ob=>match iterV ob with
    | some (k,N,l)=>match H.getD k none with
     | some obk=>match V.toDs obk.c,l.getLast? with
      | some ds,some i=>1000000<obk.T∧need (0<tagK obk.T∧ds.length/(tagK obk.T+tagV obk.T)=N∧i<N∧(tagG obk.T=true∨tagV obk.T=1)) (K (.tup [.d (.agg ((ds.drop (i*(tagK obk.T+tagV obk.T))).take (tagK obk.T))),.d (glD (tagG obk.T) ((ds.drop (i*(tagK obk.T+tagV obk.T)+tagK obk.T)).take (tagV obk.T)))]) H [k,n] [])
      | _,_=>False
     | none=>False
    | none=>False
   | none=>False
  | _=>False
 | .bad=>False
end
section
open Go.RowKit
section
variable {P:Program} {o:Oper} {T:List V} {H:List (Option Ob)}

theorem o_7 {w:World} {b:Nat} {vs more:List Value} {t:TypeId} {f:Nat×Nat} (h:w.heap[b]?=some (.cells (vs++more).toArray t f)) {i:Nat} {u:Value} (hu:vs[i]?=some u):w.cell? ⟨b,i,none⟩=some u:=by
 have hi:i<vs.length:=by
  rcases Nat.lt_or_ge i vs.length with h | h
  ·exact h
  ·rw [List.getElem?_eq_none h] at hu;cases hu
 simp [World.cell?,h,List.getElem?_append_left hi,hu]

theorem o_8 (x:Operand) (ho:o.op = .move x∨o.op = .assign x):StepOK P o (X.of x).slots T H ((X.of x).ev T) H [] [] :=
 StepOK.val fun m a hb hs _=>⟨a.eval x,by rcases ho with ho | ho<;>simp [execOp,ho],X.rep hs x (fun _ h=>h)⟩

theorem D.rep_bool {I:Nat→Prop} {w:World} {b:Bool} {v:Value}:D.rep I w (.bool b) v↔v = .bool b:=by unfold D.rep;exact Iff.rfl
theorem D.rep_int {I:Nat→Prop} {w:World} {k:IntKind} {n:Int} {v:Value}:D.rep I w (.int k n) v↔v = .int k n:=by unfold D.rep;exact Iff.rfl
theorem D.rep_str {I:Nat→Prop} {w:World} {s:ByteArray} {v:Value}:D.rep I w (.str s) v↔v = .string s:=by unfold D.rep;exact Iff.rfl
theorem V.rep_d {m:Mem} {x:D} {v:Value}:(V.d x).rep m v↔x.rep m.I m.w v:=by unfold V.rep;exact Iff.rfl
theorem V.rep_bool {m:Mem} {b:Bool} {v:Value}:(V.d (.bool b)).rep m v↔v = .bool b:=by rw [V.rep_d,D.rep_bool]
theorem V.rep_int {m:Mem} {k:IntKind} {n:Int} {v:Value}:(V.d (.int k n)).rep m v↔v = .int k n:=by rw [V.rep_d,D.rep_int]
theorem V.rep_str {m:Mem} {s:ByteArray} {v:Value}:(V.d (.str s)).rep m v↔v = .string s:=by rw [V.rep_d,D.rep_str]

theorem o_9 {m:Mem} {a:Act} {S1 S2:List Nat} (h:Slots m a T (S1++S2)):Slots m a T S1:=fun s hs=>h s (by simp [hs])
theorem o_a {S1 S2:List Nat} {m:Mem} {a:Act} (h:Slots m a T (S1++S2)):Slots m a T S2:=fun s hs=>h s (by simp [hs])
theorem X.rep' {m:Mem} {a:Act} {y:Operand} {x:V} (h:Slots m a T (X.of y).slots) (e:(X.of y).ev T=x):x.rep m (a.eval y):=e▸X.rep h y (fun _ h=>h)

theorem o_b (c x y:Operand) (t:Bool) (ho:o.op = .pick c x y) (hc:(X.of c).ev T = .d (.bool t)) :
  StepOK P o ((X.of c).slots++((X.of x).slots++(X.of y).slots)) T H (if t then (X.of x).ev T else (X.of y).ev T) H [] [] :=
 StepOK.val fun m a hb hs _=>by
  have h1:=V.rep_bool.1 (X.rep' (o_9 hs) hc)
  refine ⟨if t then a.eval x else a.eval y,by simp [execOp,ho,h1,asBool],?_⟩
  cases t
  ·exact X.rep' (o_a (o_a hs)) rfl
  ·exact X.rep' (o_9 (o_a hs)) rfl

theorem o_c {e:TypeId} {z:List D} (h:zeroOf P e=some z):∃v:Value,(∀w,(zeroValue e).run P w = .ok v w)∧D.ofs v.cells.toList=some z:=by
 unfold zeroOf at h
 cases hi:P.info? e with
 | none=>simp [hi] at h
 | some i =>
  cases hz:i.zero with
  | none=>simp [hi,hz] at h
  | some v=>exact ⟨v,fun w=>by simp [zeroValue,typeInfo,hi,hz],by simpa [hi,hz] using h⟩

theorem o_d (e:TypeId) (z:List D) (hT:e<TG) (ho:o.op = .alloc e) (hz:zeroOf P e=some z):StepOK P o [] T H (.p H.length 0) (H++[some ⟨e,z.map .d⟩]) [] [H.length] :=
 StepOK.new ⟨e,z.map .d⟩ hT fun m a hb hs _=>by
  obtain ⟨v,hv,hd⟩:=o_c hz
  obtain ⟨h1,h2⟩:=D.ofs_rep m.I m.w hd
  refine ⟨v.cells.toList,h2,V.reps_map_d.2 h1,.pointer (some ⟨m.w.heap.size,0,none⟩),?_,fun m' hρ _=>?_⟩
  ·simp [execOp,ho,Instr.alloc,hv,newVar,newRow]
  ·unfold V.rep;exact ⟨_,hρ,rfl⟩

theorem o_e (e:TypeId) (x:Operand) (c:List V) (hT:e<TG) (ho:o.op = .box e x) (hc:((X.of x).ev T).cells?=some c):StepOK P o (X.of x).slots T H (.p H.length 0) (H++[some ⟨e,c⟩]) [] [H.length] :=
 StepOK.new ⟨e,c⟩ hT fun m a hb hs _=>by
  obtain ⟨h1,h2⟩:=V.cells_rep hc (X.rep' hs rfl)
  refine ⟨(a.eval x).cells.toList,h2,h1,.pointer (some ⟨m.w.heap.size,0,none⟩),?_,fun m' hρ _=>?_⟩
  ·simp [execOp,ho,Instr.box,newVar,newRow]
  ·unfold V.rep;exact ⟨_,hρ,rfl⟩

theorem o_f {t:TypeId} {g:Bool} (h:aggB P t=some g) (w:World):(isAgg t).run P w = .ok g w:=by
 unfold aggB at h
 cases hu:P.underlying t with
 | none=>simp [hu] at h
 | some d =>
  simp [hu] at h
  simp [isAgg,run_underlying hu]
  cases d<;>simp_all

theorem o_g {t:TypeId} {i:TypeInfo} (h:P.info? t=some i) (w:World):(sizeOf t).run P w = .ok i.size w:=by simp [sizeOf,typeInfo,h]

theorem o_h {m:Mem} {t:TypeId} {i:TypeInfo} {g:Bool} (hg:aggB P t=some g) (hi:P.info? t=some i) (b off:Nat) (vs:List Value) (hc:∀j u,vs[j]?=some u→m.w.cell? ⟨b,off+j,none⟩=some u) :
  (g=true→vs.length=i.size→(Instr.loadAt t (.pointer (some ⟨b,off,none⟩))).run P m.w = .ok (.agg vs.toArray) m.w)∧(g=false→∀u,vs[0]?=some u→(Instr.loadAt t (.pointer (some ⟨b,off,none⟩))).run P m.w = .ok u m.w):=by
 constructor
 ·rintro rfl hl
  have:=run_loadCells_list (P:=P) m.w ⟨b,off,none⟩ vs (fun j u hu=>by rw [Addr.add_lit];exact hc j u hu)
  simp only [Instr.loadAt,Instr.sureAddr,loadVar,Sem.run_bind,Sem.run_pure,Result.andThen_ok,o_f hg,o_g hi,←hl,this,if_true]
 ·rintro rfl u hu
  have:=hc 0 u hu
  rw [Nat.add_zero] at this
  simp [Instr.loadAt,Instr.sureAddr,loadVar,o_f hg,this]

theorem o_i {α:Type} {l:List α} {off s j:Nat} {x:α} (h:((l.drop off).take s)[j]?=some x):l[off+j]?=some x:=by
 rw [List.getElem?_take] at h
 split at h
 ·rwa [List.getElem?_drop] at h
 ·cases h

theorem o_j (t:TypeId) (x:Operand) (i:TypeInfo) (g:Bool) (n off:Nat) (ob:Ob) (ho:o.op = .load t x) (hg:aggB P t=some g) (hi:P.info? t=some i) (hx:(X.of x).ev T = .p n off) (hn:H.getD n none=some ob) (hT:ob.T<TG) :
  (g=true→off+i.size≤ob.c.length→StepOK P o (X.of x).slots T H (mkAgg ((ob.c.drop off).take i.size)) H [n] []) ∧
  (g=false→off<ob.c.length→StepOK P o (X.of x).slots T H (ob.c.getD off .junk) H [n] []):=by
 refine ⟨fun hgt hl=>StepOK.val fun m a hb hs hob=>?_,fun hgt hl=>StepOK.val fun m a hb hs hob=>?_⟩
 all_goals
  obtain ⟨b,vs,more,h1,h2,h3,h4,h5⟩:=hob n (by simp) ob hn
  rw [o_0 hT] at h2
  have hv:=X.rep' hs hx
  unfold V.rep at hv
  obtain ⟨b',hb',hv⟩:=hv
  rw [h1] at hb';cases hb'
 ·have hlen:=V.reps_len h4
  have:=(o_h (m:=m) hg hi b off ((vs.drop off).take i.size) fun j u hu=>o_7 h2 (o_i hu)).1 hgt (by simp;omega)
  refine ⟨_,by simp [execOp,ho,hv,this],o_3 (V.reps_take (V.reps_drop h4 off) i.size) fun u hu=>h3 u (List.mem_of_mem_drop (List.mem_of_mem_take hu))⟩
 ·obtain ⟨u,hu,hr⟩:=V.reps_get h4 off ob.c[off] (by simp [hl])
  have:=(o_h (m:=m) hg hi b off (vs.drop off) fun j u hu=>o_7 h2 (by rwa [List.getElem?_drop] at hu)).2 hgt u (by rw [List.getElem?_drop];exact hu)
  exact ⟨u,by simp [execOp,ho,hv,this],by simpa [List.getD,hl] using hr⟩

theorem o_k (t:TypeId) (x:Operand) (i:TypeInfo) (g:Bool) (l:List D) (off:Nat) (ho:o.op = .load t x) (hg:aggB P t=some g) (hi:P.info? t=some i) (hx:(X.of x).ev T = .ia l off) :
  (g=true→off+i.size≤l.length→StepOK P o (X.of x).slots T H (.d (.agg ((l.drop off).take i.size))) H [] []) ∧
  (g=false→off<l.length→StepOK P o (X.of x).slots T H (.d (l.getD off default)) H [] []):=by
 refine ⟨fun hgt hl=>StepOK.val fun m a hb hs hob=>?_,fun hgt hl=>StepOK.val fun m a hb hs hob=>?_⟩
 all_goals
  have hv:=X.rep' hs hx
  unfold V.rep D.rep at hv
  obtain ⟨b,o',hv,hI,vs,h3,h4,h5⟩:=hv
 ·have hlen:=D.reps_len h4
  have:=(o_h (m:=m) hg hi b (o'+off) ((vs.drop off).take i.size) fun j u hu=>by rw [Nat.add_assoc];exact h5 _ u (o_i hu)).1 hgt (by simp;omega)
  refine ⟨.agg ((vs.drop off).take i.size).toArray,by simp [execOp,ho,hv,this],?_⟩
  rw [V.rep_d]
  unfold D.rep
  exact ⟨_,rfl,fun u hu=>h3 u (List.mem_of_mem_drop (List.mem_of_mem_take hu)),D.reps_take (D.reps_drop h4 off) i.size⟩
 ·obtain ⟨u,hu,hr⟩:=D.reps_get h4 off l[off] (by simp [hl])
  have:=(o_h (m:=m) hg hi b (o'+off) (vs.drop off) fun j u hu=>by rw [Nat.add_assoc];exact h5 _ u (by rwa [List.getElem?_drop] at hu)).2 hgt u (by rw [List.getElem?_drop];exact hu)
  exact ⟨u,by simp [execOp,ho,hv,this],by rw [V.rep_d];simpa [List.getD,hl] using hr⟩

theorem o_l:∀(c l:List V) (off:Nat),off+c.length≤l.length→setMany l off c=l.take off++c++l.drop (off+c.length)
 | [],l,off,h=>by simp [setMany]
 | x::r,l,off,h=>by
  simp only [List.length_cons] at h
  rw [setMany,o_l r (l.set off x) (off+1) (by simp;omega)]
  have:=list_seg_step' l off x r (by omega)
  rw [this]
  simp [Nat.add_assoc,Nat.add_comm 1]
 where
 list_seg_step' (l:List V) (off:Nat) (x:V) (r:List V) (h:off+r.length+1≤l.length):(l.set off x).take (off+1)++r++(l.set off x).drop (off+1+r.length)=l.take off++(x::r)++l.drop (off+1+r.length):=by
  have h1:(l.set off x).take (off+1)=l.take off++[x]:=by
   rw [List.take_add_one,List.take_set_of_le (Nat.le_refl _)]
   simp [show off<l.length by omega]
  have h2:(l.set off x).drop (off+1+r.length)=l.drop (off+1+r.length):=by
   rw [List.drop_set_of_lt (by omega)]
  rw [h1,h2]
  simp

end
end
section
open Go.RowKit
section
variable {P:Program} {o:Oper} {T:List V} {H:List (Option Ob)}

theorem o_m {w:World} {b:Nat} {old cs:Array Value} {t:TypeId} (h:w.heap[b]?=some (.cells old t (0,0))) (hl:cs.size=old.size) (k:Nat):(w.setRow b cs).shape? k=w.shape? k:=by
 unfold World.shape?
 by_cases e:k=b
 ·subst e
  rw [setRow_heap w k old cs t (0,0) h,h]
  simp [hl]
 ·rw [setRow_other w b k cs e]

theorem o_n (H:List (Option Ob)) (n:Nat) (x:Option Ob) (k:Nat):(H.set n x).getD k none=if k=n∧n<H.length then x else H.getD k none:=by
 rw [List.getD_eq_getElem?_getD,List.getD_eq_getElem?_getD,List.getElem?_set]
 by_cases e:n=k
 ·subst e
  by_cases h:n<H.length
  ·simp [h]
  ·simp [h]
 ·have:¬k=n:=fun h=>e h.symm
  simp [e,this]

theorem o_o {m:Mem} {l c:List V} {vs us:List Value} (off:Nat) (h:V.reps m l vs) (h':V.reps m c us) (hl:off+c.length≤l.length):V.reps m (setMany l off c) (vs.take off++us++vs.drop (off+us.length)):=by
 rw [o_l c l off hl,V.reps_len h']
 exact V.reps_append (V.reps_append (V.reps_take h off) h') (V.reps_drop h _)

theorem o_p (t:TypeId) (x y:Operand) (i:TypeInfo) (n off:Nat) (ob:Ob) (c:List V) (ho:o.op = .store t x y) (hi:P.info? t=some i) (hx:(X.of x).ev T = .p n off) (hy:((X.of y).ev T).cells?=some c)
  (hn:H.getD n none=some ob) (hT:ob.T<TG) (hc:c.length=i.size) (hl:off+i.size≤ob.c.length) :
  StepOK P o ((X.of x).slots++(X.of y).slots) T H .junk (H.set n (some ⟨ob.T,setMany ob.c off c⟩)) [] [n] where
 same:=fun k hk=>by
  simp at hk
  rw [o_n,if_neg (by omega)]
 len:=by simp
 lt:=fun k hk=>by
  simp at hk;subst hk
  rcases Nat.lt_or_ge k H.length with h | h
  ·simpa using h
  ·rw [List.getD_eq_getElem?_getD,List.getElem?_eq_none h] at hn;cases hn
 wlive:=fun k hk=>by simp at hk;subst hk;exact .inl (by rw [live,hn];rfl)
 run:=by
  intro m a hb hs hob _ _ K Q hK
  obtain ⟨b,vs,more,h1,h2,h3,h4,h5⟩:=hob n (.inr (by simp)) ob hn
  rw [o_0 hT] at h2
  have hv:=X.rep' (o_9 hs) hx
  unfold V.rep at hv
  obtain ⟨b',hb',hv⟩:=hv
  rw [h1] at hb';cases hb'
  obtain ⟨h6,h7⟩:=V.cells_rep hy (X.rep' (o_a hs) rfl)
  have hlen:=V.reps_len h4
  have hlen2:=V.reps_len h6
  generalize hu:(a.eval y).cells.toList=us at h6 h7 hlen2
  have hsz:(a.eval y).cells.size=i.size:=by rw [←Array.length_toList,hu];omega
  have hst:=run_storeCells_at P b off ob.T us 0 (vs++more).toArray m.w h2 (by simp;omega) h7
  have hfin:((vs++more).toArray.toList.take (off+0)++us++(vs++more).toArray.toList.drop (off+0+us.length)).toArray=((vs.take off++us++vs.drop (off+us.length))++more).toArray:=by
   congr 1
   simp only [Nat.add_zero]
   rw [List.take_append_of_le_length (by omega),List.drop_append_of_le_length (by omega)]
   simp
  rw [hfin] at hst
  generalize hnew:vs.take off++us++vs.drop (off+us.length)=nw at hst
  have hsame:((nw++more).toArray).size=((vs++more).toArray).size:=by subst hnew;simp;omega
  have hle:m.le ⟨m.ρ,m.I,m.w.setRow b (nw++more).toArray⟩ (·∈[n]):=by
   refine ⟨fun _ _ h=>h,fun _ h=>h,rfl,rfl,rfl,trivial,by simp,fun k hk hne=>?_,fun k hk=>o_m h2 hsame k,fun k hk=>?_,fun _ h=>.inl h,fun _ _ h=>.inl h⟩
   ·exact setRow_other _ _ _ _ fun e=>hne n (by simp) (e▸h1)
   ·exact setRow_other _ _ _ _ fun e=>h5 (e▸hk)
  have hH:(H.set n (some (⟨ob.T,setMany ob.c off c⟩:Ob))).getD n none=some ⟨ob.T,setMany ob.c off c⟩:=by
   have hlt:n<H.length:=by
    rcases Nat.lt_or_ge n H.length with h | h
    ·exact h
    ·rw [List.getD_eq_getElem?_getD,List.getElem?_eq_none h] at hn;cases hn
   rw [o_n,if_pos ⟨rfl,hlt⟩]
  unfold Oper.wp
  have hrun:(execOp a.eval o).run P m.w = .ok .skip (m.w.setRow b (nw++more).toArray):=by
   simp [execOp,ho,hv,Instr.storeAt,Instr.sureAddr,storeVar,o_g hi,hsz,hu,hst]
  rw [hrun]
  refine hK undef ⟨m.ρ,m.I,m.w.setRow b (nw++more).toArray⟩ ⟨⟨fun k hk=>by simpa using hb.imm k hk,fun k b' hk=>by simpa using hb.dom k b' hk,hb.tabs.le hle⟩,hle,by unfold V.rep;trivial,fun k hk ob' h'=>?_,fun _ _=>rfl,fun k hk _=>?_,fun k hk k' hk' _ _ _=>by simp at hk hk';omega⟩
  ·simp at hk;subst hk
   rw [hH] at h';cases h'
   refine ⟨b,nw,more,h1,by rw [o_0 hT];exact setRow_heap _ _ _ _ _ _ h2,fun u hu=>?_,V.reps_mono hle _ _ (hnew▸o_o off h4 h6 (by omega)),h5⟩
   subst hnew
   simp only [List.mem_append] at hu
   rcases hu with (hu | hu) | hu
   ·exact h3 u (List.mem_of_mem_take hu)
   ·exact h7 u hu
   ·exact h3 u (List.mem_of_mem_drop hu)
  ·simp at hk;subst hk
   exact ⟨b,h1,.inr ⟨k,by simp,by rw [live,hn];rfl,h1⟩⟩

theorem o_q (us:List Value):∀(off j:Nat) (cs:Array Value),((us.zipIdx j).foldl (fun (cs:Array Value) (p:Value×Nat)=>cs.setIfInBounds (off+p.2) p.1) cs).toList=(us.zipIdx j).foldl (fun (cs:List Value) (p:Value×Nat)=>cs.set (off+p.2) p.1) cs.toList:=by
 induction us with
 | nil=>intro off j cs;rfl
 | cons u us ih=>intro off j cs;simp only [List.zipIdx_cons,List.foldl_cons];rw [ih];simp

theorem o_r {m:Mem}:∀(c:List V) (us:List Value) (off j:Nat) (l:List V) (vs:List Value),V.reps m c us→V.reps m l vs→V.reps m (setMany l (off+j) c) ((us.zipIdx j).foldl (fun (cs:List Value) (p:Value×Nat)=>cs.set (off+p.2) p.1) vs)
 | [],us,off,j,l,vs,h,h'=>by simp at h;subst h;simpa [setMany] using h'
 | x::c,us,off,j,l,vs,h,h'=>by
  obtain ⟨v,r,rfl,h1,h2⟩:=V.reps_cons'.1 h
  simp only [List.zipIdx_cons,List.foldl_cons,setMany]
  exact o_r c r off (j+1) _ _ h2 (V.reps_set h' h1 _)

theorem o_s (us:List Value):∀(off j:Nat) (vs:List Value),(∀u∈vs,u.oneCell'=true)→(∀u∈us,u.oneCell'=true)→∀u∈(us.zipIdx j).foldl (fun (cs:List Value) (p:Value×Nat)=>cs.set (off+p.2) p.1) vs,u.oneCell'=true:=by
 induction us with
 | nil=>intro off j vs h _;exact h
 | cons v us ih =>
  intro off j vs h h'
  simp only [List.zipIdx_cons,List.foldl_cons]
  refine ih off (j+1) _ (fun u hu=>?_) (fun u hu=>h' u (by simp [hu]))
  rcases List.mem_or_eq_of_mem_set hu with hu | rfl
  ·exact h u hu
  ·exact h' _ (by simp)

theorem o_t {m:Mem} {a:Act} (pl:List (Nat×Nat)):∀(ps:List (Nat×Operand)) (rs:List (Nat×Nat×X)) (l c:List V) (cells:Array Value),partsOf pl ps=some rs→Slots m a T (rs.flatMap fun p=>p.2.2.slots) →
  fillV l (rs.map fun p=>(p.1,p.2.1,p.2.2.ev T))=some c→V.reps m l cells.toList→(∀u∈cells.toList,u.oneCell'=true) →
  ∃cells':Array Value,Instr.fill (pl[·]?) cells (ps.map fun p=>(p.1,a.eval p.2))=some cells'∧V.reps m c cells'.toList∧∀u∈cells'.toList,u.oneCell'=true
 | [],rs,l,c,cells,hp,hs,hf,hr,h1=>by
  simp only [partsOf,Option.some.injEq] at hp;subst hp
  simp only [List.map_nil,fillV,Option.some.injEq] at hf;subst hf
  exact ⟨cells,rfl,hr,h1⟩
 | (i,y)::ps,rs,l,c,cells,hp,hs,hf,hr,h1=>by
  simp only [partsOf] at hp
  split at hp
  ·rename_i off s l' hpl hps
   cases hp
   simp only [List.map_cons,fillV] at hf
   split at hf
   ·rename_i cc hcc
    split at hf
    ·rename_i hsz
     obtain ⟨hz1,hz2⟩:=hsz
     simp only [List.flatMap_cons] at hs
     obtain ⟨h6,h7⟩:=V.cells_rep hcc (X.rep' (o_9 hs) rfl)
     have hlen2:=V.reps_len h6
     have hlen:=V.reps_len hr
     have e1:(a.eval y).cells.size=s:=by rw [←Array.length_toList,hlen2,hz1]
     obtain ⟨cells',h8,h9,h10⟩:=o_t pl ps l' (setMany l off cc) c ((a.eval y).cells.zipIdx.foldl (fun cs (p:Value×Nat)=>cs.setIfInBounds (off+p.2) p.1) cells) hps (o_a hs) hf
      (by
       have:=o_r cc (a.eval y).cells.toList off 0 l cells.toList h6 hr
       rw [Nat.add_zero,←o_q] at this
       rw [←Array.foldl_toList,Array.toList_zipIdx]
       exact this)
      (by
       have:=o_s (a.eval y).cells.toList off 0 cells.toList h1 h7
       rw [←o_q] at this
       rw [←Array.foldl_toList,Array.toList_zipIdx]
       exact this)
     refine ⟨cells',?_,h9,h10⟩
     simp only [List.map_cons,Instr.fill,hpl]
     rw [if_neg]
     ·exact h8
     ·rw [e1]
      have:cells.size=l.length:=by rw [←Array.length_toList,hlen]
      simp [this]
      omega
    ·cases hf
   ·cases hf
  ·cases hp

theorem o_u (t:TypeId) (ps:Array (Nat×Operand)) (fs:Array Field) (z:List D) (pl:List (Nat×Nat)) (l:List (Nat×Nat×X)) (c:List V) (ho:o.op = .build t ps) (hu:P.underlying t=some (.struct fs)) (hz:zeroOf P t=some z)
  (hf:fieldsOf P fs=some pl) (hp:partsOf pl ps.toList=some l) (hc:fillV (z.map .d) (l.map fun p=>(p.1,p.2.1,p.2.2.ev T))=some c):StepOK P o (l.flatMap fun p=>p.2.2.slots) T H (mkAgg c) H [] [] :=
 StepOK.val fun m a hb hs _=>by
  unfold zeroOf at hz
  cases hi:P.info? t with
  | none=>simp [hi] at hz
  | some i =>
   cases hzz:i.zero with
   | none=>simp [hi,hzz] at hz
   | some v =>
    simp [hi,hzz] at hz
    obtain ⟨h1,h2⟩:=D.ofs_rep m.I m.w hz
    obtain ⟨cells',h3,h4,h5⟩:=o_t (m:=m) (a:=a) pl ps.toList l (z.map .d) c v.cells hp hs hc (V.reps_map_d.2 h1) h2
    have hbu:P.built t (ps.map fun (i,x)=>(i,a.eval x)).toList=some cells':=by
     unfold fieldsOf at hf
     simp only [Program.built,hi,hu,hzz,hf]
     simpa using h3
    refine ⟨.agg cells',?_,by have:=o_3 h4 h5;simpa using this⟩
    have:=run_build (P:=P) m.w t (ps.map fun (i,x)=>(i,a.eval x)) cells' hbu
    simp [execOp,ho,this]

end
end
section
open Go.RowKit
section
variable {P:Program} {o:Oper} {T:List V} {H:List (Option Ob)}

theorem o_v (t e n:Nat) (ps:Array (Nat×Operand)) (i:TypeInfo) (z:Value) (zl:List D) (l:List (Nat×Nat×X)) (c:List V) (ho:o.op = .buildSlice t n ps) (hu:P.underlying t=some (.slice e)) (hi:P.info? e=some i) (hz:i.zero=some z)
  (h0:¬n*i.size=0) (h24:n*i.size≤16777216) (hd:D.ofs (madeCells z.cells (n*i.size)).toList=some zl) (hp:partsOf ((List.range n).map fun j=>(j*i.size,i.size)) ps.toList=some l)
  (hc:fillV (zl.map .d) (l.map fun p=>(p.1,p.2.1,p.2.2.ev T))=some c) (hT:e<TG):StepOK P o (l.flatMap fun p=>p.2.2.slots) T H (.own H.length i.size n) (H++[some ⟨e,c⟩]) [] [H.length] :=
 StepOK.new ⟨e,c⟩ hT fun m a hb hs _=>by
  obtain ⟨h1,h2⟩:=D.ofs_rep m.I m.w hd
  obtain ⟨cells',h3,h4,h5⟩:=o_t (m:=m) (a:=a) _ ps.toList l (zl.map .d) c _ hp hs hc (V.reps_map_d.2 h1) h2
  have hpl:∀k p,((List.range n).map fun j=>(j*i.size,i.size))[k]?=some p→p=(k*i.size,i.size):=by
   intro k p hk
   simp only [List.getElem?_map,Option.map_eq_some_iff] at hk
   obtain ⟨j,hj,rfl⟩:=hk
   rw [List.getElem?_range] at hj
   ·cases hj;rfl
   ·rcases Nat.lt_or_ge k n with h | h
    ·exact h
    ·rw [List.getElem?_eq_none (by simpa using h)] at hj;cases hj
  have hfill:∀(L:List (Nat×Value)) (cs r:Array Value),Instr.fill (((List.range n).map fun j=>(j*i.size,i.size))[·]?) cs L=some r→Instr.fill (fun j=>some (j*i.size,i.size)) cs L=some r:=by
   intro L
   induction L with
   | nil=>intro cs r h;simpa [Instr.fill] using h
   | cons p L ih =>
    intro cs r h
    obtain ⟨j,v⟩:=p
    simp only [Instr.fill] at h ⊢
    split at h
    ·cases h
    ·rename_i off s hk
     have:=hpl j _ hk
     simp only [Prod.mk.injEq] at this
     obtain ⟨rfl,rfl⟩:=this
     split at h
     ·cases h
     ·rename_i hne
      rw [if_neg hne]
      exact ih _ _ h
  have hf:=hfill _ _ _ h3
  have hcl:cells'.size=n*i.size:=by
   have e1:=V.reps_len h4
   have e2:c.length=zl.length:=by
    have:∀(L:List (Nat×Nat×V)) (l r:List V),fillV l L=some r→r.length=l.length:=by
     intro L
     induction L with
     | nil=>intro l r h;simp [fillV] at h;rw [h]
     | cons p L ih =>
      intro l r h
      simp only [fillV] at h
      split at h
      ·split at h
       ·rw [ih _ _ h,o_5]
       ·cases h
      ·cases h
    rw [this _ _ _ hc];simp
   have e3:=D.reps_len h1
   rw [←Array.length_toList,e1,e2,←e3]
   simp [madeCells]
  refine ⟨cells'.toList,h5,h4,.slice (some ⟨m.w.heap.size,0,none⟩) n n,?_,fun m' hρ hw=>?_⟩
  ·have hn:¬(16777216<n*i.size):=by omega
   have hm:(madeCells z.cells (n*i.size))=(Array.range (n*i.size)).map (z.cells[·%z.cells.size]!):=rfl
   rw [hm] at hf
   have hf':Instr.fill (fun j=>some (j*i.size,i.size)) ((Array.range (n*i.size)).map (z.cells[·%z.cells.size]!)) (ps.map fun (j,x)=>(j,a.eval x)).toList=some cells':=by simpa using hf
   simp only [execOp,ho,Instr.buildSlice,run_underlying hu,Sem.run_bind,Sem.run_pure,Result.andThen_ok,o_g hi,if_neg hn,h0,zeroValue,typeInfo,run_program,hi,hz,hf',if_false,Nat.reducePow,Sem.run_ite]
   simp [newRow]
  ·unfold V.rep
   refine ⟨_,e,n*i.size,n,hρ,?_,rfl,rfl,Nat.le_refl _,?_⟩
   ·rw [hw]
    unfold World.shape?
    rw [heap_alloc_new]
    simp [hcl]
   ·have:n≤n*i.size:=Nat.le_mul_of_pos_right _ (Nat.pos_of_ne_zero fun h=>h0 (by rw [h,Nat.mul_zero]))
    unfold maxLen;omega

theorem o_w (x:Operand) (y:V) (ho:o.op = .nilCheck x) (hx:(X.of x).ev T=y) (hy:(∃n k,y = .p n k)∨(∃l k,y = .ia l k)∨(∃f c,y = .fn (.func f) c)∨∃t d,y = .d (.ifc t d)):StepOK P o (X.of x).slots T H y H [] [] :=
 StepOK.val fun m a hb hs _=>by
  have hv:=X.rep' hs hx
  refine ⟨a.eval x,?_,hv⟩
  rcases hy with ⟨n,k,rfl⟩ | ⟨l,k,rfl⟩ | ⟨f,c,rfl⟩ | ⟨t,d,rfl⟩
  ·unfold V.rep at hv;obtain ⟨b,_,hv⟩:=hv;simp [execOp,ho,hv]
  ·unfold V.rep D.rep at hv;obtain ⟨b,o',hv,_⟩:=hv;simp [execOp,ho,hv]
  ·unfold V.rep at hv;obtain ⟨vs,hv,_⟩:=hv;simp [execOp,ho,hv]
  ·unfold V.rep D.rep at hv;obtain ⟨u,hv,_⟩:=hv;simp [execOp,ho,hv]

theorem o_x (op:UnOp) (t:TypeId) (x:Operand) (y:V) (ho:o.op = .unOp op t x) (hx:(X.of x).ev T=y) :
  (∀b,op = .not→y = .d (.bool b)→StepOK P o (X.of x).slots T H (.d (.bool (!b))) H [] []) ∧
  (∀k n,op = .neg→y = .d (.int k n)→StepOK P o (X.of x).slots T H (.d (.int k (k.wrap (0-n)))) H [] []) ∧
  (∀k n,op = .xor→y = .d (.int k n)→StepOK P o (X.of x).slots T H (.d (.int k (bits .xor k (if k.signed then -1 else k.max) n))) H [] []):=by
 refine ⟨?_,?_,?_⟩
 ·rintro b rfl rfl
  exact StepOK.val fun m a hb hs _=>⟨.bool (!b),by simp [execOp,ho,V.rep_bool.1 (X.rep' hs hx),Op.unary],V.rep_bool.2 rfl⟩
 ·rintro k n rfl rfl
  exact StepOK.val fun m a hb hs _=>⟨_,by simp [execOp,ho,V.rep_int.1 (X.rep' hs hx),Op.unary,Op.intArith];rfl,V.rep_int.2 (by simp)⟩
 ·rintro k n rfl rfl
  exact StepOK.val fun m a hb hs _=>⟨.int k (bits .xor k (if k.signed then -1 else k.max) n),by simp only [execOp,ho,V.rep_int.1 (X.rep' hs hx),Op.unary,intBits_xor];rfl,V.rep_int.2 rfl⟩

theorem o_y (src dst:TypeId) (x:Operand) (k k':IntKind) (kk:IntKind) (n:Int) (ho:o.op = .convert src dst x) (h1:P.underlying src=some (.int kk)) (h2:P.underlying dst=some (.int k)) (hx:(X.of x).ev T = .d (.int k' n)) :
  StepOK P o (X.of x).slots T H (.d (.int k (k.wrap n))) H [] [] :=
 StepOK.val fun m a hb hs _=>⟨.int k (k.wrap n),by simp [execOp,ho,V.rep_int.1 (X.rep' hs hx),convert,run_underlying h1,run_underlying h2,Conv.intToInt],V.rep_int.2 rfl⟩

theorem o_z (src dst:TypeId) (x:Operand) (s:ByteArray) (ho:o.op = .convert src dst x) (h1:P.underlying src=some .string) (h2:P.underlying dst=some .string) (hx:(X.of x).ev T = .d (.str s)) :
  StepOK P o (X.of x).slots T H (.d (.str s)) H [] [] :=
 StepOK.val fun m a hb hs _=>⟨.string s,by simp [execOp,ho,V.rep_str.1 (X.rep' hs hx),convert,run_underlying h1,run_underlying h2],V.rep_str.2 rfl⟩

theorem o_10 (t:TypeId) (x:Operand) (d:TypeDesc) (y:D) (ho:o.op = .makeInterface t x) (h1:P.underlying t=some d) (hd:∀ms,d≠.interface ms) (hx:(X.of x).ev T = .d y):StepOK P o (X.of x).slots T H (.d (.ifc t y)) H [] [] :=
 StepOK.val fun m a hb hs _=>by
  refine ⟨.iface t (a.eval x),?_,?_⟩
  ·have:(Instr.makeInterface t (a.eval x)).run P m.w = .ok (.iface t (a.eval x)) m.w:=by
    unfold Instr.makeInterface
    simp only [Sem.run_bind,run_underlying h1,Result.andThen_ok]
    rfl
   simp [execOp,ho,this]
  ·have:=X.rep' hs hx
   rw [V.rep_d] at this ⊢
   unfold D.rep
   exact ⟨_,rfl,this⟩

theorem o_11 {m:Mem} {a:Act}:∀(l:List Operand),Slots m a T (X.slotss (l.map X.of))→V.reps m ((l.map X.of).map (X.ev T)) (l.map a.eval)
 | [],_=>by simp
 | y::l,hs=>by
  simp only [X.slotss,List.map_cons,List.flatMap_cons] at hs
  simp only [List.map_cons,V.reps_cons]
  exact ⟨X.rep' (o_9 hs) rfl,o_11 l (o_a hs)⟩

theorem o_12 (fn:Fn) (first caps:Array Operand) (ho:o.op = .makeFunc fn first caps) (hf:first.size=0):StepOK P o (X.slotss (caps.toList.map X.of)) T H (.fn fn ((caps.toList.map X.of).map (X.ev T))) H [] [] :=
 StepOK.val fun m a hb hs _=>by
  have hf':first = #[]:=Array.eq_empty_of_size_eq_zero hf
  subst hf'
  refine ⟨.func fn #[] (caps.map a.eval),by simp [execOp,ho,Instr.makeFunc],?_⟩
  unfold V.rep
  exact ⟨caps.toList.map a.eval,by rw [←Array.toList_map],o_11 _ hs⟩

theorem o_13 {I:Nat→Prop} {w:World} {m:Mem} (hI:m.I=I) (hw:m.w=w) {z:Value} {l:List D} (hd:D.ofs z.cells.toList=some l) (n:Nat):V.reps m (repl n l) (madeCells z.cells (n*l.length)).toList∧∀u∈(madeCells z.cells (n*l.length)).toList,u.oneCell'=true:=by
 obtain ⟨h1,h2⟩:=D.ofs_rep m.I m.w hd
 have hlen:=D.reps_len h1
 have hz:z.cells.size=l.length:=by rw [←Array.length_toList,hlen]
 constructor
 ·unfold repl
  split
  ·rename_i x
   obtain ⟨v,r,e,h3,h4⟩:=D.reps_cons'.1 h1
   simp at h4;subst h4
   have:z.cells = #[v]:=by rw [←Array.toArray_toList (xs:=z.cells),e]
   rw [this,List.length_singleton,Nat.mul_one,toList_madeCells_one]
   clear hd h1 hlen hz e this
   induction n with
   | zero=>simp
   | succ n ih=>rw [List.replicate_succ,List.replicate_succ];exact V.reps_cons.2 ⟨by rw [V.rep_d];exact h3,ih⟩
  ·rw [V.reps_iff]
   have hl:∀n,((List.replicate n (l.map V.d)).flatten).length=n*l.length:=by
    intro n;induction n with
    | zero=>simp
    | succ n ih=>rw [List.replicate_succ,List.flatten_cons,List.length_append,ih];simp [Nat.succ_mul,Nat.add_comm]
   refine ⟨by simp [madeCells,hl],fun i x v hx hv=>?_⟩
   have hget:∀(n i:Nat) (x:V),((List.replicate n (l.map V.d)).flatten)[i]?=some x→(l.map V.d)[i%l.length]?=some x:=by
    intro n
    induction n with
    | zero=>intro i x h;simp at h
    | succ n ih =>
     intro i x h
     rw [List.replicate_succ,List.flatten_cons] at h
     rcases Nat.lt_or_ge i l.length with hlt | hge
     ·rw [List.getElem?_append_left (by simpa using hlt)] at h
      rwa [Nat.mod_eq_of_lt hlt]
     ·rw [List.getElem?_append_right (by simpa using hge)] at h
      have:=ih _ _ h
      simp only [List.length_map] at this
      rwa [←Nat.mod_eq_sub_mod hge] at this
   have hx':=hget n i x hx
   have hi:i<n*l.length:=by
    rcases Nat.lt_or_ge i (n*l.length) with h | h
    ·exact h
    ·rw [List.getElem?_eq_none (by rw [hl];exact h)] at hx;cases hx
   have hv':z.cells[i%l.length]?=some v:=by
    simp only [madeCells,Array.getElem?_toList,Array.getElem?_map,Option.map_eq_some_iff] at hv
    obtain ⟨j,hj,hjv⟩:=hv
    have hji:j=i:=by
     rw [Array.getElem?_range] at hj
     simp [hi] at hj
     exact hj.symm
    subst hji
    have hpos:0<l.length:=Nat.pos_of_ne_zero fun h=>by rw [h,Nat.mul_zero] at hi;omega
    rw [hz] at hjv
    have hlt:j%l.length<z.cells.size:=by rw [hz];exact Nat.mod_lt _ hpos
    rw [getElem!_pos z.cells _ hlt] at hjv
    rw [Array.getElem?_eq_getElem hlt,hjv]
   rw [List.getElem?_map,Option.map_eq_some_iff] at hx'
   obtain ⟨y,hy,rfl⟩:=hx'
   obtain ⟨u,hu,hr⟩:=D.reps_get h1 _ _ hy
   rw [Array.getElem?_toList,hv'] at hu
   cases hu
   rw [V.rep_d];exact hr
 ·intro u hu
  simp only [madeCells,Array.toList_map,List.mem_map] at hu
  obtain ⟨j,_,rfl⟩:=hu
  rcases Nat.eq_zero_or_pos z.cells.size with h | h
  ·have:z.cells = #[]:=Array.eq_empty_of_size_eq_zero h
   rw [this];rfl
  ·have hlt:=Nat.mod_lt j h
   rw [getElem!_pos z.cells _ hlt]
   exact h2 _ (by simp)

theorem o_14 (t e:TypeId) (x y:Operand) (i:TypeInfo) (z:Value) (l:List D) (k k':IntKind) (n:Int) (ho:o.op = .makeSlice t x y) (hu:P.underlying t=some (.slice e)) (hi:P.info? e=some i) (hz:i.zero=some z) (hd:D.ofs z.cells.toList=some l)
  (hl:l.length=i.size) (hx:(X.of x).ev T = .d (.int k n)) (hy:(X.of y).ev T = .d (.int k' n)) (h0:0≤n) (hby:(i.bytes:Int)*n≤281474976710656) (hn:n≤281474976710656) (hs0:0<i.size) (hT:e<TG) :
  StepOK P o ((X.of x).slots++(X.of y).slots) T H (.own H.length i.size n.toNat) (H++[some ⟨e,repl n.toNat l⟩]) [] [H.length] :=
 StepOK.new ⟨e,repl n.toNat l⟩ hT fun m a hb hs _=>by
  obtain ⟨h1,h2⟩:=o_13 (m:=m) rfl rfl hd n.toNat
  rw [hl] at h1 h2
  have hrun:=run_make (P:=P) m.w t e i z hu hi hz k k' n n h0 (Int.le_refl _) hby (by omega)
  refine ⟨(madeCells z.cells (n.toNat*i.size)).toList,h2,h1,.slice (some ⟨m.w.heap.size,0,none⟩) n.toNat n.toNat,?_,fun m' hρ hw=>?_⟩
  ·simp [execOp,ho,V.rep_int.1 (X.rep' (o_9 hs) hx),V.rep_int.1 (X.rep' (o_a hs) hy),hrun]
  ·unfold V.rep
   refine ⟨_,e,n.toNat*i.size,n.toNat,hρ,?_,rfl,rfl,Nat.le_refl _,by unfold maxLen;omega⟩
   rw [hw]
   unfold World.shape?
   rw [heap_alloc_new]
   simp [madeCells]

end
end
section
open Go.RowKit
section
variable {P:Program} {o:Oper} {T:List V} {H:List (Option Ob)}

theorem StepOK.data {S:List Nat} {x:D} (h:∀(m:Mem) (a:Act),Slots m a T S→∃v,(execOp a.eval o).run P m.w = .ok (.value v) m.w∧x.rep m.I m.w v):StepOK P o S T H (.d x) H [] [] :=
 StepOK.val fun m a _ hs _=>by obtain ⟨v,h1,h2⟩:=h m a hs;exact ⟨v,h1,V.rep_d.2 h2⟩

theorem o_15 (op:BinOp) (t:TypeId) (x y:Operand) (k k':IntKind) (a b:Int) (w:World):(eqGuard op t x y (.int k a) (.int k' b)).run P w = .ok () w:=by
 unfold eqGuard;split<;>rfl
theorem o_16 (op:BinOp) (t:TypeId) (x y:Operand) (a b:ByteArray) (w:World):(eqGuard op t x y (.string a) (.string b)).run P w = .ok () w:=by
 unfold eqGuard;split<;>rfl
theorem o_17 (op:BinOp) (t:TypeId) (x y:Operand) (a b:Bool) (w:World):(eqGuard op t x y (.bool a) (.bool b)).run P w = .ok () w:=by
 unfold eqGuard;split<;>rfl

theorem o_18 (op:BinOp) (t t':TypeId) (x y:Operand) (k k':IntKind) (a b:Int) (ho:o.op = .binOp op t x y t') (hx:(X.of x).ev T = .d (.int k a)) (hy:(X.of y).ev T = .d (.int k' b)) (K:D→Prop)
  (h:binInt op k a k' b K):∃d,K d∧StepOK P o ((X.of x).slots++(X.of y).slots) T H (.d d) H [] []:=by
 have key:∀d:D,(∀w,∃v,(binOp op t (.int k a) (.int k' b)).run P w = .ok v w∧∀I,d.rep I w v)→StepOK P o ((X.of x).slots++(X.of y).slots) T H (.d d) H [] []:=fun d hd =>
  StepOK.data fun m ac hs=>by
   obtain ⟨v,h1,h2⟩:=hd m.w
   refine ⟨v,?_,h2 _⟩
   simp [execOp,ho,V.rep_int.1 (X.rep' (o_9 hs) hx),V.rep_int.1 (X.rep' (o_a hs) hy),o_15,h1]
 cases op<;>simp only [binInt,need] at h
 case shl=>exact ⟨_,h.2,key _ fun w=>⟨_,by simp [binOp,shift_shl k k' a b h.1.1 h.1.2],fun I=>D.rep_int.2 rfl⟩⟩
 case shr=>exact ⟨_,h.2,key _ fun w=>⟨_,by simp [binOp,shift_shr k k' a b h.1.1 h.1.2],fun I=>D.rep_int.2 rfl⟩⟩
 case add=>obtain ⟨rfl,h⟩:=h;exact ⟨_,h,key _ fun w=>⟨_,by simp [binOp,Op.intArith],fun I=>D.rep_int.2 rfl⟩⟩
 case sub=>obtain ⟨rfl,h⟩:=h;exact ⟨_,h,key _ fun w=>⟨_,by simp [binOp,Op.intArith],fun I=>D.rep_int.2 rfl⟩⟩
 case mul=>obtain ⟨rfl,h⟩:=h;exact ⟨_,h,key _ fun w=>⟨_,by simp [binOp,Op.intArith],fun I=>D.rep_int.2 rfl⟩⟩
 case quo=>obtain ⟨⟨rfl,h0⟩,h⟩:=h;exact ⟨_,h,key _ fun w=>⟨_,by simp [binOp,Op.intDiv,h0],fun I=>D.rep_int.2 rfl⟩⟩
 case rem=>obtain ⟨⟨rfl,h0⟩,h⟩:=h;exact ⟨_,h,key _ fun w=>⟨_,by simp [binOp,Op.intDiv,h0],fun I=>D.rep_int.2 rfl⟩⟩
 case and=>obtain ⟨rfl,h⟩:=h;exact ⟨_,h,key _ fun w=>⟨_,by simp [binOp,intBits_and],fun I=>D.rep_int.2 rfl⟩⟩
 case or=>obtain ⟨rfl,h⟩:=h;exact ⟨_,h,key _ fun w=>⟨_,by simp [binOp,intBits_or],fun I=>D.rep_int.2 rfl⟩⟩
 case xor=>obtain ⟨rfl,h⟩:=h;exact ⟨_,h,key _ fun w=>⟨_,by simp [binOp,intBits_xor],fun I=>D.rep_int.2 rfl⟩⟩
 case andNot=>obtain ⟨rfl,h⟩:=h;exact ⟨_,h,key _ fun w=>⟨_,by simp [binOp,intBits_andNot],fun I=>D.rep_int.2 rfl⟩⟩
 case eql=>obtain ⟨rfl,h⟩:=h;exact ⟨_,h,key _ fun w=>⟨_,by simp [binOp,Op.intCmp],fun I=>D.rep_bool.2 rfl⟩⟩
 case neq=>obtain ⟨rfl,h⟩:=h;exact ⟨_,h,key _ fun w=>⟨_,by simp [binOp,Op.intCmp],fun I=>D.rep_bool.2 rfl⟩⟩
 case lss=>obtain ⟨rfl,h⟩:=h;exact ⟨_,h,key _ fun w=>⟨_,by simp [binOp,Op.intCmp],fun I=>D.rep_bool.2 rfl⟩⟩
 case leq=>obtain ⟨rfl,h⟩:=h;exact ⟨_,h,key _ fun w=>⟨_,by simp [binOp,Op.intCmp],fun I=>D.rep_bool.2 rfl⟩⟩
 case gtr=>obtain ⟨rfl,h⟩:=h;exact ⟨_,h,key _ fun w=>⟨_,by simp [binOp,Op.intCmp],fun I=>D.rep_bool.2 rfl⟩⟩
 case geq=>obtain ⟨rfl,h⟩:=h;exact ⟨_,h,key _ fun w=>⟨_,by simp [binOp,Op.intCmp],fun I=>D.rep_bool.2 rfl⟩⟩

theorem o_19 (op:BinOp) (t t':TypeId) (x y:Operand) (a b:ByteArray) (ho:o.op = .binOp op t x y t') (hx:(X.of x).ev T = .d (.str a)) (hy:(X.of y).ev T = .d (.str b)) (K:D→Prop)
  (h:binStr op a b K):∃d,K d∧StepOK P o ((X.of x).slots++(X.of y).slots) T H (.d d) H [] []:=by
 have key:∀d:D,(∀w,∃v,(binOp op t (.string a) (.string b)).run P w = .ok v w∧∀I,d.rep I w v)→StepOK P o ((X.of x).slots++(X.of y).slots) T H (.d d) H [] []:=fun d hd =>
  StepOK.data fun m ac hs=>by
   obtain ⟨v,h1,h2⟩:=hd m.w
   refine ⟨v,?_,h2 _⟩
   simp [execOp,ho,V.rep_str.1 (X.rep' (o_9 hs) hx),V.rep_str.1 (X.rep' (o_a hs) hy),o_16,h1]
 cases op<;>simp only [binStr,need] at h
 case add =>
  refine ⟨_,h.2,key _ fun w=>⟨.string (a++b),?_,fun I=>D.rep_str.2 rfl⟩⟩
  have:¬(((a.size+b.size:Nat):Int)>IntKind.i64.max):=by
   have:IntKind.i64.max=9223372036854775807:=by decide
   rw [this];omega
  simp only [binOp,Op.stringOp,if_neg this]
  rfl
 case eql=>exact ⟨_,h,key _ fun w=>⟨_,by simp [binOp,Op.stringOp],fun I=>D.rep_bool.2 rfl⟩⟩
 case neq=>exact ⟨_,h,key _ fun w=>⟨_,by simp [binOp,Op.stringOp],fun I=>D.rep_bool.2 rfl⟩⟩

theorem o_1a (op:BinOp) (t t':TypeId) (x y:Operand) (a b:Bool) (hop:op = .eql∨op = .neq) (ho:o.op = .binOp op t x y t') (hu:P.underlying t=some .bool) (hx:(X.of x).ev T = .d (.bool a)) (hy:(X.of y).ev T = .d (.bool b)) :
  StepOK P o ((X.of x).slots++(X.of y).slots) T H (.d (.bool (if op==.neq then a != b else a==b))) H [] [] :=
 StepOK.data fun m ac hs=>by
  refine ⟨.bool (if op==.neq then a != b else a==b),?_,D.rep_bool.2 rfl⟩
  have heq:(Op.equal t (.bool a) (.bool b)).run P m.w = .ok (a==b) m.w:=by
   show (Op.equalIn (9999+1) t (.bool a) (.bool b)).run P m.w=_
   rw [Op.equalIn]
   simp [run_underlying hu]
  rcases hop with rfl | rfl
  ·simp [execOp,ho,V.rep_bool.1 (X.rep' (o_9 hs) hx),V.rep_bool.1 (X.rep' (o_a hs) hy),o_17,binOp,heq]
  ·simp only [execOp,ho,V.rep_bool.1 (X.rep' (o_9 hs) hx),V.rep_bool.1 (X.rep' (o_a hs) hy),o_17,binOp,heq,Sem.run_bind,Result.andThen_ok,Sem.run_pure]
   rfl

theorem o_1b (t:TypeId) (x:Operand) (f:Nat) (fs:Array Field) (g:Field) (i:TypeInfo) (ho:o.op = .fieldAddr t x f) (hu:P.underlying t=some (.struct fs)) (hf:fs[f]?=some g) (hi:P.info? g.type=some i) (h0:¬i.size=0) :
  (∀n k,(X.of x).ev T = .p n k→StepOK P o (X.of x).slots T H (.p n (k+g.offset)) H [] [])∧(∀l k,(X.of x).ev T = .ia l k→StepOK P o (X.of x).slots T H (.ia l (k+g.offset)) H [] []):=by
 have key:∀(m:Mem) (b k:Nat),(Instr.fieldAt t (.pointer (some ⟨b,k,none⟩)) f).run P m.w = .ok (.pointer (some ⟨b,k+g.offset,none⟩)) m.w:=by
  intro m b k
  simp [Instr.fieldAt,run_underlying hu,hf,Instr.sureAddr,fieldPlace,o_g hi,h0,Addr.add_lit]
 constructor
 ·intro n k hx
  refine StepOK.val fun m a _ hs _=>?_
  have hv:=X.rep' hs hx
  unfold V.rep at hv
  obtain ⟨b,hb,hv⟩:=hv
  refine ⟨.pointer (some ⟨b,k+g.offset,none⟩),by simp [execOp,ho,hv,key],?_⟩
  unfold V.rep;exact ⟨b,hb,rfl⟩
 ·intro l k hx
  refine StepOK.val fun m a _ hs _=>?_
  have hv:=X.rep' hs hx
  unfold V.rep D.rep at hv
  obtain ⟨b,o',hv,hr⟩:=hv
  refine ⟨.pointer (some ⟨b,o'+k+g.offset,none⟩),by simp [execOp,ho,hv,key],?_⟩
  unfold V.rep D.rep;exact ⟨b,o',by rw [Nat.add_assoc],hr⟩

theorem o_1c (t:TypeId) (x:Operand) (f:Nat) (fs:Array Field) (g:Field) (i:TypeInfo) (q:Bool) (ho:o.op = .field t x f) (hu:P.underlying t=some (.struct fs)) (hf:fs[f]?=some g) (hq:aggB P g.type=some q) (hi:P.info? g.type=some i) :
  (∀l:List D,(X.of x).ev T = .d (.agg l)→(q=true→g.offset+i.size≤l.length→StepOK P o (X.of x).slots T H (.d (.agg ((l.drop g.offset).take i.size))) H [] [])∧(q=false→g.offset<l.length→StepOK P o (X.of x).slots T H (.d (l.getD g.offset default)) H [] [])) ∧
  (∀l:List V,(X.of x).ev T = .agg l→(q=true→g.offset+i.size≤l.length→StepOK P o (X.of x).slots T H (mkAgg ((l.drop g.offset).take i.size)) H [] [])∧(q=false→g.offset<l.length→StepOK P o (X.of x).slots T H (l.getD g.offset .junk) H [] [])):=by
 have key:∀(m:Mem) (vs:List Value),(q=true→(Instr.field t (.agg vs.toArray) f).run P m.w = .ok (.agg ((vs.drop g.offset).take i.size).toArray) m.w)∧(q=false→∀u,vs[g.offset]?=some u→(Instr.field t (.agg vs.toArray) f).run P m.w = .ok u m.w):=by
  intro m vs
  constructor
  ·rintro rfl
   have:(vs.take (g.offset+i.size)).drop g.offset=(vs.drop g.offset).take i.size:=by rw [List.drop_take];congr 1;omega
   simp [Instr.field,run_underlying hu,hf,asAgg,part,o_f hq,o_g hi,this]
  ·rintro rfl u hu'
   simp [Instr.field,run_underlying hu,hf,asAgg,part,o_f hq,hu']
 refine ⟨fun l hx=>⟨fun hqt hl=>?_,fun hqt hl=>?_⟩,fun l hx=>⟨fun hqt hl=>?_,fun hqt hl=>?_⟩⟩
 ·refine StepOK.val fun m a _ hs _=>?_
  have hv:=X.rep' hs hx
  simp only [V.rep_d] at hv ⊢
  unfold D.rep at hv
  obtain ⟨vs,hv,h1,h2⟩:=hv
  refine ⟨.agg ((vs.drop g.offset).take i.size).toArray,by simp [execOp,ho,hv,(key m vs).1 hqt],?_⟩
  unfold D.rep
  exact ⟨_,rfl,fun u hu=>h1 u (List.mem_of_mem_drop (List.mem_of_mem_take hu)),D.reps_take (D.reps_drop h2 _) _⟩
 ·refine StepOK.val fun m a _ hs _=>?_
  have hv:=X.rep' hs hx
  simp only [V.rep_d] at hv ⊢
  unfold D.rep at hv
  obtain ⟨vs,hv,h1,h2⟩:=hv
  obtain ⟨u,hu',hr⟩:=D.reps_get h2 g.offset l[g.offset] (by simp [hl])
  exact ⟨u,by simp [execOp,ho,hv,(key m vs).2 hqt u hu'],by simpa [List.getD,hl] using hr⟩
 ·refine StepOK.val fun m a _ hs _=>?_
  have hv:=X.rep' hs hx
  unfold V.rep at hv
  obtain ⟨vs,hv,h1,h2⟩:=hv
  exact ⟨.agg ((vs.drop g.offset).take i.size).toArray,by simp [execOp,ho,hv,(key m vs).1 hqt],o_3 (V.reps_take (V.reps_drop h2 _) _) fun u hu=>h1 u (List.mem_of_mem_drop (List.mem_of_mem_take hu))⟩
 ·refine StepOK.val fun m a _ hs _=>?_
  have hv:=X.rep' hs hx
  unfold V.rep at hv
  obtain ⟨vs,hv,h1,h2⟩:=hv
  obtain ⟨u,hu',hr⟩:=V.reps_get h2 g.offset l[g.offset] (by simp [hl])
  exact ⟨u,by simp [execOp,ho,hv,(key m vs).2 hqt u hu'],by simpa [List.getD,hl] using hr⟩

theorem o_1d (x:Operand) (i:Nat) (l:List V) (ho:o.op = .extract x i) (hx:(X.of x).ev T = .tup l) (hi:i<l.length):StepOK P o (X.of x).slots T H (l.getD i .junk) H [] [] :=
 StepOK.val fun m a _ hs _=>by
  have hv:=X.rep' hs hx
  unfold V.rep at hv
  obtain ⟨vs,hv,h1⟩:=hv
  obtain ⟨u,hu',hr⟩:=V.reps_get h1 i l[i] (by simp [hi])
  exact ⟨u,by simp [execOp,ho,hv,Instr.extract,hu'],by simpa [List.getD,hi] using hr⟩

theorem o_1e (t e:TypeId) (x y:Operand) (i:TypeInfo) (k:IntKind) (a:Int) (ho:o.op = .indexAddr t x y) (hu:P.underlying t=some (.slice e)) (hi:P.info? e=some i) (hy:(X.of y).ev T = .d (.int k a)) (h0:0≤a) :
  (∀n l,(X.of x).ev T = .d (.sl n l)→a<n→a.toNat*i.size<l.length→StepOK P o ((X.of x).slots++(X.of y).slots) T H (.ia l (a.toNat*i.size)) H [] []) ∧
  (∀n len,(X.of x).ev T = .own n i.size len→a<len→StepOK P o ((X.of x).slots++(X.of y).slots) T H (.p n (a.toNat*i.size)) H [] []) ∧
  (∀n off len,(X.of x).ev T = .row n off len→a<len→StepOK P o ((X.of x).slots++(X.of y).slots) T H (.p n (off+a.toNat*i.size)) H [] []):=by
 have key:∀(m:Mem) (b off len cap:Nat),a<len→(Instr.indexAt t (.slice (some ⟨b,off,none⟩) len cap) (.int k a)).run P m.w = .ok (.pointer (some ⟨b,off+a.toNat*i.size,none⟩)) m.w:=by
  intro m b off len cap hlt
  simp [Instr.indexAt,asIntOf,run_underlying hu,h0,hlt,o_g hi,Addr.add_lit]
 refine ⟨fun n l hx hlt hll=>?_,fun n len hx hlt=>?_,fun n off len hx hlt=>?_⟩
 all_goals refine StepOK.val fun m ac _ hs _=>?_
 all_goals have hv:=X.rep' (o_9 hs) hx
 all_goals have hw:=V.rep_int.1 (X.rep' (o_a hs) hy)
 ·rw [V.rep_d] at hv
  unfold D.rep at hv
  obtain ⟨p,cap,hv,_,_,vs,h1,h2,h3⟩:=hv
  have hl:=D.reps_len h2
  rcases h3 with ⟨_,_,rfl⟩ | ⟨b,o',rfl,hI,hc⟩
  ·simp at hl;omega
  ·have hI':m.I b:=hI.resolve_left fun e=>by subst e;simp at hl;omega
   refine ⟨.pointer (some ⟨b,o'+a.toNat*i.size,none⟩),by simp [execOp,ho,hv,hw,key _ _ _ _ _ hlt],?_⟩
   unfold V.rep D.rep
   exact ⟨b,o',rfl,hI',vs,h1,h2,hc⟩
 ·unfold V.rep at hv
  obtain ⟨b,t',z,cap,hb,_,_,hv,_⟩:=hv
  refine ⟨.pointer (some ⟨b,0+a.toNat*i.size,none⟩),by simp [execOp,ho,hv,hw,key _ _ _ _ _ hlt],?_⟩
  unfold V.rep
  exact ⟨b,hb,by rw [Nat.zero_add]⟩
 ·unfold V.rep at hv
  obtain ⟨b,o',cap,hb,hv,hoff,_⟩:=hv
  have:o'=off:=hoff.resolve_left (by omega)
  subst this
  refine ⟨.pointer (some ⟨b,o'+a.toNat*i.size,none⟩),by simp [execOp,ho,hv,hw,key _ _ _ _ _ hlt],?_⟩
  unfold V.rep
  exact ⟨b,hb,rfl⟩

end
end
section
open Go.RowKit
section
variable {P:Program} {o:Oper} {T:List V} {H:List (Option Ob)}

theorem o_1f {x:V} {n:Int} (h:intOf? x=some n):∃k,x = .d (.int k n):=by
 unfold intOf? at h
 split at h
 ·cases h;exact ⟨_,rfl⟩
 ·cases h

theorem o_1g {w:World} (lo hi mx:Option Value) (len cap l h m:Nat) (hlo:lo=none∧l=0∨∃k,lo=some (.int k l)) (hhi:hi=none∧mx=none∧h=len∨∃k,hi=some (.int k h))
  (hmx:mx=none∧m=cap∨(hi.isSome=true∧∃k,mx=some (.int k m))) (h1:l≤h) (h2:h≤m) (h3:m≤cap):(Instr.sliceBounds true len cap lo hi mx).run P w = .ok (l,h,m) w:=by
 have sb:∀(k:IntKind) (i y:Nat) (c:BoundsCode),i≤y→(Instr.sliceBound (.int k i) y c).run P w = .ok i w:=by
  intro k i y c hle
  have:(0:Int)≤i∧(i:Int)≤y:=by omega
  simp only [Instr.sliceBound,asIntOf,Sem.run_bind,Sem.run_pure,Result.andThen_ok,if_pos this,Int.toNat_natCast]
 unfold Instr.sliceBounds
 rcases hmx with ⟨rfl,rfl⟩ | ⟨hs,k,rfl⟩
 ·rcases hhi with ⟨rfl,_,rfl⟩ | ⟨k,rfl⟩
  ·rcases hlo with ⟨rfl,rfl⟩ | ⟨k,rfl⟩
   ·simp
   ·simp [sb _ _ _ _ h1]
  ·rcases hlo with ⟨rfl,rfl⟩ | ⟨k',rfl⟩
   ·simp [sb _ _ _ _ h2]
   ·simp [sb _ _ _ _ h2,sb _ _ _ _ h1]
 ·rcases hhi with ⟨_,h0,_⟩ | ⟨k',rfl⟩
  ·cases h0
  ·rcases hlo with ⟨rfl,rfl⟩ | ⟨k'',rfl⟩
   ·simp [sb _ _ _ _ h2,sb _ _ _ _ h3]
   ·simp [sb _ _ _ _ h2,sb _ _ _ _ h3,sb _ _ _ _ h1]

theorem o_1h {w:World} {t e:TypeId} {i:TypeInfo} (hu:P.underlying t=some (.slice e)) (hi:P.info? e=some i) (pa:Option Addr) (lo hi' mx:Option Value) (len cap l h m:Nat) (hb:(Instr.sliceBounds true len cap lo hi' mx).run P w = .ok (l,h,m) w) :
  (Instr.sliceAt t (.slice pa len cap) lo hi' mx).run P w = .ok (.slice (if m=l then pa else pa.map (·.add (l*i.size))) (h-l) (m-l)) w:=by
 simp [Instr.sliceAt,Instr.slice,run_underlying hu,hb,o_g hi]

theorem o_1i {m:Mem} {a:Act} {n:Int} {r:Int} (lo:Option Operand) (hs:Slots m a T (optS (lo.map X.of))) (h:bnd T n (lo.map X.of)=some r):(lo=none∧r=n)∨∃y k,lo=some y∧a.eval y = .int k r:=by
 cases lo with
 | none=>simp [bnd] at h;exact .inl ⟨rfl,h.symm⟩
 | some y =>
  simp only [bnd,Option.map_some] at h
  obtain ⟨k,hk⟩:=o_1f h
  exact .inr ⟨y,k,rfl,V.rep_int.1 (X.rep' hs hk)⟩

theorem o_1j {m:Mem} {a:Act} {x:V} {mx:Bool} {r:Int} (hi:Option Operand) (hs:Slots m a T (optS (hi.map X.of))) (h:hiOf T x mx (hi.map X.of)=some r):(hi=none∧mx=false∧lenV x=some r)∨∃y k,hi=some y∧a.eval y = .int k r:=by
 cases hi with
 | none =>
  simp only [hiOf,Option.map_none] at h
  cases mx with
  | true=>simp at h
  | false=>exact .inl ⟨rfl,rfl,by simpa using h⟩
 | some y =>
  simp only [hiOf,Option.map_some] at h
  obtain ⟨k,hk⟩:=o_1f h
  exact .inr ⟨y,k,rfl,V.rep_int.1 (X.rep' hs hk)⟩

theorem o_1k (t:TypeId) (x:Operand) (lo hi:Option Operand) (s:ByteArray) (a b:Int) (ho:o.op = .slice t x lo hi none) (hu:P.underlying t=some .string) (hx:(X.of x).ev T = .d (.str s)) (ha:bnd T 0 (lo.map X.of)=some a) (hb:bnd T s.size (hi.map X.of)=some b) (h0:0≤a) (h1:a≤b) (h2:b≤s.size) :
  StepOK P o ((X.of x).slots++(optS (lo.map X.of)++optS (hi.map X.of))) T H (.d (.str (s.extract a.toNat b.toNat))) H [] [] :=
 StepOK.data fun m ac hs=>by
  have hlo:=o_1i lo (o_9 (o_a hs)) ha
  have hhi:=o_1i hi (o_a (o_a hs)) hb
  have sb:∀(k:IntKind) (i:Int) (y:Nat) (c:BoundsCode),0≤i→i≤y→(Instr.sliceBound (.int k i) y c).run P m.w = .ok i.toNat m.w:=by
   intro k i y c h3 h4
   simp only [Instr.sliceBound,asIntOf,Sem.run_bind,Sem.run_pure,Result.andThen_ok,if_pos (And.intro h3 h4)]
  have hbr:(Instr.sliceBounds false s.size s.size (lo.map ac.eval) (hi.map ac.eval) none).run P m.w = .ok (a.toNat,b.toNat,s.size) m.w:=by
   unfold Instr.sliceBounds
   rcases hhi with ⟨rfl,rfl⟩ | ⟨y,k,rfl,hy⟩
   ·rcases hlo with ⟨rfl,rfl⟩ | ⟨y',k',rfl,hy'⟩
    ·simp
    ·simp [hy',sb _ _ _ _ h0 h1]
   ·rcases hlo with ⟨rfl,rfl⟩ | ⟨y',k',rfl,hy'⟩
    ·simp [hy,sb _ _ _ _ (Int.le_trans h0 h1) h2]
    ·have h1':a≤((b.toNat:Nat):Int):=by omega
     simp [hy,hy',sb _ _ _ _ (Int.le_trans h0 h1) h2,sb _ _ _ _ h0 h1']
  refine ⟨.string (s.extract a.toNat b.toNat),?_,D.rep_str.2 rfl⟩
  simp [execOp,ho,V.rep_str.1 (X.rep' (o_9 hs) hx),Instr.sliceAt,Instr.slice,run_underlying hu,hbr]

theorem o_1l {I:Nat→Prop} {w:World} {l:List D} {vs:List Value} {s a n:Nat} (h:D.reps I w l vs):D.reps I w ((l.drop (a*s)).take (n*s)) ((vs.drop (a*s)).take (n*s)):=D.reps_take (D.reps_drop h _) _

theorem o_1m (t e:TypeId) (x:Operand) (lo hi mx:Option Operand) (i:TypeInfo) (ho:o.op = .slice t x lo hi mx) (hu:P.underlying t=some (.slice e)) (hi':P.info? e=some i) (K:V→Prop)
  (h:sliceS i.size ((X.of x).ev T) (bnd T 0 (lo.map X.of)) (hiOf T ((X.of x).ev T) (mx.map X.of).isSome (hi.map X.of)) ((mx.map X.of).map fun c=>intOf? (c.ev T)) K) :
  ∃v,K v∧StepOK P o ((X.of x).slots++(optS (lo.map X.of)++(optS (hi.map X.of)++optS (mx.map X.of)))) T H v H [] []:=by
 have hmxn:∀{c:Option (Option Int)},((mx.map X.of).map fun c=>intOf? (c.ev T))=c→c=none→mx=none:=by
  intro c h1 h2;subst h2;cases mx with
  | none=>rfl
  | some y=>simp at h1
 -- all that a case wants
 have key:∀(m:Mem) (ac:Act) (pa:Option Addr) (len cap:Nat) (a b:Int) (c:Nat),Slots m ac T ((X.of x).slots++(optS (lo.map X.of)++(optS (hi.map X.of)++optS (mx.map X.of))))→ac.eval x = .slice pa len cap →
   bnd T 0 (lo.map X.of)=some a→hiOf T ((X.of x).ev T) (mx.map X.of).isSome (hi.map X.of)=some b→(lenV ((X.of x).ev T)=some b→b=len)→0≤a→a≤b→b≤c→c≤cap →
   (mx=none∧c=cap∨∃z,mx=some z∧∃k,ac.eval z = .int k c) →
   (execOp ac.eval o).run P m.w = .ok (.value (.slice (if c=a.toNat then pa else pa.map (·.add (a.toNat*i.size))) (b-a).toNat (c-a.toNat))) m.w:=by
  intro m ac pa len cap a b c hs hx ha hb hlen h0 h1 h2 h3 hc
  have hlo:=o_1i lo (o_9 (o_a hs)) ha
  have hhi:=o_1j hi (o_9 (o_a (o_a hs))) hb
  have hbr:=o_1g (P:=P) (w:=m.w) (lo.map ac.eval) (hi.map ac.eval) (mx.map ac.eval) len cap a.toNat b.toNat c
   (by
    rcases hlo with ⟨rfl,rfl⟩ | ⟨y,k,rfl,hy⟩
    ·exact .inl ⟨rfl,rfl⟩
    ·exact .inr ⟨k,by simp [hy,Int.toNat_of_nonneg h0]⟩)
   (by
    rcases hhi with ⟨rfl,hm,hl⟩ | ⟨y,k,rfl,hy⟩
    ·refine .inl ⟨rfl,?_,by have:=hlen hl;omega⟩
     cases mx with
     | none=>rfl
     | some z=>simp at hm
    ·exact .inr ⟨k,by simp [hy,Int.toNat_of_nonneg (Int.le_trans h0 h1)]⟩)
   (by
    rcases hc with ⟨rfl,rfl⟩ | ⟨z,rfl,k,hz⟩
    ·exact .inl ⟨rfl,rfl⟩
    ·refine .inr ⟨?_,k,by simp [hz]⟩
     rcases hhi with ⟨_,hm,_⟩ | ⟨y,k,rfl,hy⟩
     ·simp at hm
     ·rfl)
   (by omega) (by omega) h3
  have:=o_1h hu hi' pa (lo.map ac.eval) (hi.map ac.eval) (mx.map ac.eval) len cap a.toNat b.toNat c hbr
  have hba:b.toNat-a.toNat=(b-a).toNat:=by omega
  simp only [execOp,ho,hx,Sem.run_bind,this,Result.andThen_ok,Sem.run_pure,hba]
 unfold sliceS at h
 split at h
 ·-- immutable
  rename_i n l a b hx ha hb hmx
  obtain ⟨⟨h0,h1,h2⟩,hK⟩:=h
  refine ⟨_,hK,StepOK.val fun m ac _ hs _=>?_⟩
  have hv:=X.rep' (o_9 hs) hx
  rw [V.rep_d] at hv
  unfold D.rep at hv
  obtain ⟨p,cap,hv,hn,hcap,vs,h3,h4,h5⟩:=hv
  refine ⟨_,key m ac p n cap a b cap hs hv ha hb (fun hl=>by rw [hx] at hl;simpa [lenV] using hl.symm) h0 h1 (by omega) (Nat.le_refl _) (.inl ⟨hmxn hmx rfl,rfl⟩),?_⟩
  rw [V.rep_d]
  unfold D.rep
  refine ⟨_,_,rfl,by omega,by unfold maxLen at *;omega,((vs.drop (a.toNat*i.size)).take ((b-a).toNat*i.size)),fun u hu=>h3 u (List.mem_of_mem_drop (List.mem_of_mem_take hu)),o_1l h4,?_⟩
  rcases h5 with ⟨rfl,rfl⟩ | ⟨b',o',rfl,h6,h7⟩
  ·exact .inl ⟨by omega,by simp⟩
  ·by_cases e:cap=a.toNat
   ·rw [if_pos e]
    have hba:(b-a).toNat=0:=by omega
    exact .inr ⟨b',o',rfl,.inl (by simp [hba]),by simp [hba]⟩
   ·rw [if_neg e]
    refine .inr ⟨b',o'+a.toNat*i.size,by simp [Addr.add_lit],h6.imp (fun e=>by simp [e]) id,fun j u hu=>?_⟩
    rw [Nat.add_assoc]
    exact h7 _ u (o_i hu)
 ·-- immutable,of three
  rename_i n l a b c hx ha hb hmx
  obtain ⟨⟨h0,h1,h2,h2'⟩,hK⟩:=h
  split at hK
  ·rename_i hz
   obtain ⟨rfl,rfl⟩:=hz
   refine ⟨_,hK,StepOK.val fun m ac _ hs _=>?_⟩
   have hv:=X.rep' (o_9 hs) hx
   rw [V.rep_d] at hv
   unfold D.rep at hv
   obtain ⟨p,cap,hv,hn,hcap,vs,h3,h4,h5⟩:=hv
   obtain rfl:b=0:=by omega
   refine ⟨_,key m ac p n cap 0 0 0 hs hv ha hb (fun hl=>by rw [hx] at hl;simpa [lenV] using hl.symm) h0 h1 (by omega) (by omega) (.inr ?_),?_⟩
   ·cases mx with
    | none=>simp at hmx
    | some z =>
     simp only [Option.map_some,Option.some.injEq] at hmx
     obtain ⟨k,hk⟩:=o_1f hmx
     exact ⟨z,rfl,k,by rw [V.rep_int.1 (X.rep' (o_a (o_a (o_a hs))) hk)];rfl⟩
   ·rw [V.rep_d];unfold D.rep
    exact ⟨_,rfl⟩
  split at hK
  ·rename_i hz2
   obtain ⟨rfl,rfl⟩:=hz2
   refine ⟨_,hK,StepOK.val fun m ac _ hs _=>?_⟩
   have hv:=X.rep' (o_9 hs) hx
   rw [V.rep_d] at hv
   unfold D.rep at hv
   obtain ⟨p,cap,hv,hn,hcap,vs,h3,h4,h5⟩:=hv
   refine ⟨_,key m ac p n cap 0 b b.toNat hs hv ha hb (fun hl=>by rw [hx] at hl;simpa [lenV] using hl.symm) h0 h1 (by omega) (by omega) (.inr ?_),?_⟩
   ·cases mx with
    | none=>simp at hmx
    | some z =>
     simp only [Option.map_some,Option.some.injEq] at hmx
     obtain ⟨k,hk⟩:=o_1f hmx
     exact ⟨z,rfl,k,by rw [V.rep_int.1 (X.rep' (o_a (o_a (o_a hs))) hk),Int.toNat_of_nonneg h1]⟩
   ·rw [V.rep_d];unfold D.rep
    have hbn:¬b.toNat=(0:Int).toNat:=by omega
    rw [if_neg hbn]
    refine ⟨_,by simp;rfl,by unfold maxLen at *;omega,vs.take (b.toNat*i.size),fun u hu=>h3 u (List.mem_of_mem_take hu),D.reps_take h4 _,?_⟩
    rcases h5 with ⟨h5,rfl⟩ | ⟨b',o',rfl,h6,h7⟩
    ·omega
    ·refine .inr ⟨b',o',by simp [Addr.add_lit],h6.imp (fun e=>by simp [e]) id,fun j u hu=>h7 j u ?_⟩
     rw [List.getElem?_take] at hu
     split at hu
     ·exact hu
     ·cases hu
  refine ⟨_,hK,StepOK.val fun m ac _ hs _=>?_⟩
  have hv:=X.rep' (o_9 hs) hx
  rw [V.rep_d] at hv
  unfold D.rep at hv
  obtain ⟨p,cap,hv,hn,hcap,vs,h3,h4,h5⟩:=hv
  have hc0:0≤c:=by omega
  refine ⟨_,key m ac p n cap a b c.toNat hs hv ha hb (fun hl=>by rw [hx] at hl;simpa [lenV] using hl.symm) h0 h1 (by omega) (by omega) (.inr ?_),?_⟩
  ·cases mx with
   | none=>simp at hmx
   | some z =>
    simp only [Option.map_some,Option.some.injEq] at hmx
    obtain ⟨k,hk⟩:=o_1f hmx
    exact ⟨z,rfl,k,by rw [V.rep_int.1 (X.rep' (o_a (o_a (o_a hs))) hk),Int.toNat_of_nonneg hc0]⟩
  rw [V.rep_d]
  unfold D.rep
  refine ⟨_,_,rfl,by omega,by unfold maxLen at *;omega,((vs.drop (a.toNat*i.size)).take ((b-a).toNat*i.size)),fun u hu=>h3 u (List.mem_of_mem_drop (List.mem_of_mem_take hu)),o_1l h4,?_⟩
  rcases h5 with ⟨rfl,rfl⟩ | ⟨b',o',rfl,h6,h7⟩
  ·exact .inl ⟨by omega,by simp⟩
  ·by_cases e:c.toNat=a.toNat
   ·rw [if_pos e]
    have hba:(b-a).toNat=0:=by omega
    exact .inr ⟨b',o',rfl,.inl (by simp [hba]),by simp [hba]⟩
   ·rw [if_neg e]
    refine .inr ⟨b',o'+a.toNat*i.size,by simp [Addr.add_lit],h6.imp (fun e=>by simp [e]) id,fun j u hu=>?_⟩
    rw [Nat.add_assoc]
    exact h7 _ u (o_i hu)
 ·-- a row of its own
  rename_i nm s' n a b hx ha hb hmx
  obtain ⟨⟨rfl,h0,h1,h2⟩,hK⟩:=h
  refine ⟨_,hK,StepOK.val fun m ac _ hs _=>?_⟩
  have hv:=X.rep' (o_9 hs) hx
  unfold V.rep at hv
  obtain ⟨bb,t',z,cap,hbb,hsh,hz,hv,hn,hcap⟩:=hv
  refine ⟨_,key m ac _ n cap a b cap hs hv ha hb (fun hl=>by rw [hx] at hl;simpa [lenV] using hl.symm) h0 h1 (by omega) (Nat.le_refl _) (.inl ⟨hmxn hmx rfl,rfl⟩),?_⟩
  unfold V.rep
  by_cases e:cap=a.toNat
  ·rw [if_pos e]
   exact ⟨bb,0,cap-a.toNat,hbb,rfl,.inl (by omega),by omega,by unfold maxLen at *;omega⟩
  ·rw [if_neg e]
   exact ⟨bb,a.toNat*i.size,cap-a.toNat,hbb,by simp [Addr.add_lit],.inr rfl,by omega,by unfold maxLen at *;omega⟩
 ·rename_i nm off n a b hx ha hb hmx
  obtain ⟨⟨h0,h1,h2⟩,hK⟩:=h
  refine ⟨_,hK,StepOK.val fun m ac _ hs _=>?_⟩
  have hv:=X.rep' (o_9 hs) hx
  unfold V.rep at hv
  obtain ⟨bb,o',cap,hbb,hv,hoff,hn,hcap⟩:=hv
  refine ⟨_,key m ac _ n cap a b cap hs hv ha hb (fun hl=>by rw [hx] at hl;simpa [lenV] using hl.symm) h0 h1 (by omega) (Nat.le_refl _) (.inl ⟨hmxn hmx rfl,rfl⟩),?_⟩
  unfold V.rep
  by_cases e:cap=a.toNat
  ·rw [if_pos e]
   exact ⟨bb,o',cap-a.toNat,hbb,rfl,.inl (by omega),by omega,by unfold maxLen at *;omega⟩
  ·rw [if_neg e]
   refine ⟨bb,o'+a.toNat*i.size,cap-a.toNat,hbb,by simp [Addr.add_lit],?_,by omega,by unfold maxLen at *;omega⟩
   rcases hoff with h | h
   ·exact .inl (by omega)
   ·exact .inr (by rw [h])
 ·rename_i a b hx ha hb hmx
  obtain ⟨⟨rfl,rfl⟩,hK⟩:=h
  refine ⟨_,hK,StepOK.val fun m ac _ hs _=>?_⟩
  have hv:=X.rep' (o_9 hs) hx
  rw [V.rep_d] at hv
  unfold D.rep at hv
  refine ⟨_,key m ac none 0 0 0 0 0 hs hv ha hb (fun _=>rfl) (Int.le_refl _) (Int.le_refl _) (by simp) (Nat.le_refl _) (.inl ⟨hmxn hmx rfl,rfl⟩),?_⟩
  rw [V.rep_d]
  unfold D.rep
  rfl
 ·exact h.elim

end
end
section
structure Frz (m m1:Mem) (n b:Nat) (ds:List D) (vs:List Value):Prop where
 hρ:m1.ρ=m.ρ
 hw:m1.w=m.w
 hI:∀k,m.I k→m1.I k
 hb:m.ρ n=some b
 hIb:m1.I b
 hone:∀u∈vs,u.oneCell'=true
 hr:D.reps m1.I m1.w ds vs
 hc:∀i u,vs[i]?=some u→m1.w.cell? ⟨b,i,none⟩=some u

mutual
theorem V.frz_rep {m m1:Mem} {n s b:Nat} {ds:List D} {vs:List Value} (F:Frz m m1 n b ds vs):∀(x:V) (v:Value),x.rep m v→(x.frz n s ds).rep m1 v
 | .own k s' len,v,h=>by
  simp only [V.frz]
  split
  ·rename_i e;subst e
   split
   ·rename_i e;subst e
    unfold V.rep at h
    obtain ⟨b',t,z,cap,h1,h2,h3,h4,h5,h6⟩:=h
    rw [F.hb] at h1;cases h1
    rw [V.rep_d]
    unfold D.rep
    exact ⟨_,cap,h4,h5,h6,vs.take (len*s'),fun u hu=>F.hone u (List.mem_of_mem_take hu),D.reps_take F.hr _,.inr ⟨b,0,rfl,.inr F.hIb,fun i u hu=>by rw [Nat.zero_add];refine F.hc i u ?_;rw [List.getElem?_take] at hu;split at hu;exact hu;cases hu⟩⟩
   ·unfold V.rep;trivial
  ·unfold V.rep at h ⊢;rw [F.hρ,F.hw];exact h
 | .row k off len,v,h=>by
  simp only [V.frz]
  split
  ·rename_i e;subst e
   unfold V.rep at h
   obtain ⟨b',o',cap,h1,h4,h2,h5,h6⟩:=h
   rw [F.hb] at h1;cases h1
   rw [V.rep_d]
   unfold D.rep
   refine ⟨_,cap,h4,h5,h6,(vs.drop off).take (len*s),fun u hu=>F.hone u (List.mem_of_mem_drop (List.mem_of_mem_take hu)),D.reps_take (D.reps_drop F.hr _) _,.inr ⟨b,o',rfl,.inr F.hIb,fun i u hu=>?_⟩⟩
   rcases h2 with rfl | rfl
   ·simp at hu
   ·exact F.hc _ u (o_i hu)
  ·unfold V.rep at h ⊢;rw [F.hρ];exact h
 | .p k off,v,h=>by
  simp only [V.frz]
  split
  ·rename_i e;subst e
   unfold V.rep at h ⊢
   obtain ⟨b',h1,h2⟩:=h
   rw [F.hb] at h1;cases h1
   exact ⟨b,0,by rw [Nat.zero_add];exact h2,F.hIb,vs,F.hone,F.hr,fun i u hu=>by rw [Nat.zero_add];exact F.hc i u hu⟩
  ·unfold V.rep at h ⊢;rw [F.hρ];exact h
 | .agg l,v,h=>by
  simp only [V.frz]
  unfold V.rep at h ⊢
  obtain ⟨us,h1,h2,h3⟩:=h
  exact ⟨us,h1,h2,V.frzs_rep F l us h3⟩
 | .tup l,v,h=>by
  simp only [V.frz]
  unfold V.rep at h ⊢
  obtain ⟨us,h1,h3⟩:=h
  exact ⟨us,h1,V.frzs_rep F l us h3⟩
 | .mp k,v,h=>by
  simp only [V.frz]
  unfold V.rep at h ⊢;rw [F.hρ];exact h
 | .ch k,v,h=>by
  simp only [V.frz]
  unfold V.rep at h ⊢;rw [F.hρ];exact h
 | .fn f l,v,h=>by
  simp only [V.frz]
  unfold V.rep at h ⊢
  obtain ⟨us,h1,h3⟩:=h
  exact ⟨us,h1,V.frzs_rep F l us h3⟩
 | .fb f l,v,h=>by
  simp only [V.frz]
  unfold V.rep at h ⊢
  obtain ⟨us,h1,h3⟩:=h
  exact ⟨us,h1,V.frzs_rep F l us h3⟩
 | .d x,v,h=>by
  simp only [V.frz]
  rw [V.rep_d] at h ⊢
  exact D.rep_mono F.hI (fun _ _=>by rw [F.hw]) x v h
 | .junk,v,h=>by simp only [V.frz];unfold V.rep;trivial
theorem V.frzs_rep {m m1:Mem} {n s b:Nat} {ds:List D} {vs:List Value} (F:Frz m m1 n b ds vs):∀(l:List V) (us:List Value),V.reps m l us→V.reps m1 (V.frzs n s ds l) us
 | [],us,h=>by simpa [V.frzs] using h
 | x::l,us,h=>by
  obtain ⟨v,r,rfl,h1,h2⟩:=V.reps_cons'.1 h
  simp only [V.frzs]
  exact V.reps_cons.2 ⟨V.frz_rep F x v h1,V.frzs_rep F l r h2⟩
end
end
section
open Go.RowKit

mutual
theorem D.rep_stab {I I':Nat→Prop} {w w':World}:∀(x:D) (v:Value),x.stab=true→D.rep I w x v→D.rep I' w' x v
 | .int _ _,_,_,h | .bool _,_,_,h | .str _,_,_,h | .nilsl,_,_,h | .nilifc,_,_,h | .nilp,_,_,h | .nilfn,_,_,h=>by
  unfold D.rep at h ⊢;exact h
 | .agg l,v,hs,h=>by
  unfold D.stab at hs
  unfold D.rep at h ⊢
  obtain ⟨vs,h1,h0,h2⟩:=h
  exact ⟨vs,h1,h0,D.reps_stab l vs hs h2⟩
 | .ifc t d,v,hs,h=>by
  unfold D.stab at hs
  unfold D.rep at h ⊢
  obtain ⟨u,h1,h2⟩:=h
  exact ⟨u,h1,D.rep_stab d u hs h2⟩
 | .sl _ _,_,hs,_=>by simp [D.stab] at hs
 | .slf _ _,_,hs,_=>by simp [D.stab] at hs
 | .sl0,_,hs,_=>by simp [D.stab] at hs
 | .sle,_,hs,_=>by simp [D.stab] at hs
theorem D.reps_stab {I I':Nat→Prop} {w w':World}:∀(l:List D) (vs:List Value),D.stabs l=true→D.reps I w l vs→D.reps I' w' l vs
 | [],vs,_,h=>by unfold D.reps at h ⊢;exact h
 | x::l,vs,hs,h=>by
  unfold D.stabs at hs
  simp at hs
  unfold D.reps at h ⊢
  obtain ⟨v,r,h1,h2,h3⟩:=h
  exact ⟨v,r,h1,D.rep_stab x v hs.1 h2,D.reps_stab l r hs.2 h3⟩
end
mutual
theorem V.rep_stab {m m':Mem}:∀(x:V) (v:Value),x.stab=true→V.rep m x v→V.rep m' x v
 | .d x,v,hs,h=>by unfold V.stab at hs;unfold V.rep at h ⊢;exact D.rep_stab x v hs h
 | .agg l,v,hs,h=>by unfold V.stab at hs;unfold V.rep at h ⊢;obtain ⟨vs,h1,h0,h2⟩:=h;exact ⟨vs,h1,h0,V.reps_stab l vs hs h2⟩
 | .tup l,v,hs,h=>by unfold V.stab at hs;unfold V.rep at h ⊢;obtain ⟨vs,h1,h2⟩:=h;exact ⟨vs,h1,V.reps_stab l vs hs h2⟩
 | .p _ _,_,hs,_=>by simp [V.stab] at hs
 | .row _ _ _,_,hs,_=>by simp [V.stab] at hs
 | .own _ _ _,_,hs,_=>by simp [V.stab] at hs
 | .fn _ _,_,hs,_=>by simp [V.stab] at hs
 | .fb _ _,_,hs,_=>by simp [V.stab] at hs
 | .mp _,_,hs,_=>by simp [V.stab] at hs
 | .ch _,_,hs,_=>by simp [V.stab] at hs
 | .junk,_,hs,_=>by simp [V.stab] at hs
theorem V.reps_stab {m m':Mem}:∀(l:List V) (vs:List Value),V.stabs l=true→V.reps m l vs→V.reps m' l vs
 | [],vs,_,h=>by unfold V.reps at h ⊢;exact h
 | x::l,vs,hs,h=>by
  unfold V.stabs at hs
  simp at hs
  unfold V.reps at h ⊢
  obtain ⟨v,r,h1,h2,h3⟩:=h
  exact ⟨v,r,h1,V.rep_stab x v hs.1 h2,V.reps_stab l r hs.2 h3⟩
end
mutual
theorem V.ren_id0:∀x:V,x.ren id=x
 | .d _ | .p _ _ | .row _ _ _ | .own _ _ _ | .mp _ | .ch _ | .junk=>by simp [V.ren]
 | .agg l | .tup l | .fn _ l | .fb _ l=>by simp [V.ren,V.rens_id0 l]
theorem V.rens_id0:∀l:List V,V.rens id l=l
 | []=>by simp [V.rens]
 | x::l=>by simp [V.rens,V.ren_id0 x,V.rens_id0 l]
end
def Mem.objW (m:Mem) (n:Nat) (o:Ob):Prop :=
 ∃b,∃vs more:List Value,m.ρ n=some b∧m.w.heap[b]?=some (objOf o.T vs more)∧(∀u∈vs,u.oneCell'=true)∧V.reps m o.c vs
theorem o_1n {n s:Nat} {ds:List D} {H:List (Option Ob)} {k:Nat} {ob:Ob} (h:(frzH n s ds H).getD k none=some ob):∃ob0,H.getD k none=some ob0∧ob0.T=ob.T∧ob.c=V.frzs n s ds ob0.c:=by
 unfold frzH at h
 rw [List.getD_eq_getElem?_getD,List.getElem?_set] at h
 split at h
 ·split at h<;>simp at h
 ·rw [List.getElem?_map] at h
  rw [List.getD_eq_getElem?_getD]
  cases hk:H[k]? with
  | none=>rw [hk] at h;simp at h
  | some o =>
   rw [hk] at h
   cases o with
   | none=>simp at h
   | some ob0 =>
    simp at h
    subst h
    exact ⟨ob0,rfl,rfl,rfl⟩
theorem o_1o:∀(ns:List (Nat×Nat×List D)) (H:List (Option Ob)) (m:Mem),m.base→(∀k,k∈ns.map (·.1)→∀ob,H.getD k none=some ob→m.objW k ob)→frzOK H ns →
  ∃m1:Mem,m1.ρ=m.ρ∧m1.w=m.w∧(∀k,m.I k→m1.I k)∧m1.base∧∀args vs,V.reps m args vs→V.reps m1 (frzL ns args) vs
 | [],H,m,hb,_,_=>⟨m,rfl,rfl,fun _ h=>h,hb,fun _ _ h=>h⟩
 | (n,s,ds)::r,H,m,hb,hob,hok=>by
  obtain ⟨⟨ob,hn,hTG,hd⟩,hok⟩:=hok
  obtain ⟨b,us,more,k1,k2,k3,k4⟩:=hob n (by simp) ob hn
  rw [o_0 hTG] at k2
  generalize hm1:(⟨m.ρ,fun k=>m.I k∨k=b,m.w⟩:Mem)=m1
  have e1:m1.ρ=m.ρ:=by rw [←hm1]
  have e2:m1.w=m.w:=by rw [←hm1]
  have hI:∀k,m.I k→m1.I k:=fun k hk=>by rw [←hm1];exact .inl hk
  have hIb:m1.I b:=by rw [←hm1];exact .inr rfl
  have hI':∀k,m1.I k→m.I k∨k=b:=fun k hk=>by rw [←hm1] at hk;exact hk
  rw [hd,V.reps_map_d] at k4
  have hrd:D.reps m1.I m1.w ds us:=D.reps_mono hI (fun _ _=>by rw [e2]) ds us k4
  have hcell:∀i u,us[i]?=some u→m1.w.cell? ⟨b,i,none⟩=some u:=fun i u hu=>by rw [e2];exact o_7 k2 hu
  have F:Frz m m1 n b ds us:=⟨e1,e2,hI,k1,hIb,k3,hrd,hcell⟩
  have hb1:m1.base:=⟨fun k hk=>by
   rw [e2]
   rcases hI' k hk with h | rfl
   ·exact hb.imm k h
   ·exact hb.dom n _ k1,fun k c hk=>by rw [e2];exact hb.dom k c (by rw [←e1];exact hk),hb.tabs.mono hI (fun _ _=>by rw [e2])⟩
  obtain ⟨m2,g1,g2,g3,g4,g5⟩:=o_1o r (frzH n s ds H) m1 hb1 (fun k hk ob' hk'=>by
   obtain ⟨ob0,h1,h2,h3⟩:=o_1n hk'
   obtain ⟨c,vs,more',j1,j2,j3,j4⟩:=hob k (by simp [List.mem_map.1 hk]) ob0 h1
   exact ⟨c,vs,more',by rw [e1];exact j1,by rw [e2,←h2];exact j2,j3,by rw [h3];exact V.frzs_rep F _ _ j4⟩) hok
  refine ⟨m2,g1.trans e1,g2.trans e2,fun k h=>g3 k (hI k h),g4,fun args vs h=>?_⟩
  exact g5 _ _ (V.frzs_rep (s:=s) F args vs h)

theorem o_1p {P:Program} {o:Oper} {S:List Nat} {T:List V} {H:List (Option Ob)} {f:FuncId} {args:List V} {K:V→List (Option Ob)→List Nat→List Nat→Prop} (h:CallRO P f args H K)
  (hargs:∀(m:Mem) (a:Act),Slots m a T S→∃vs:List Value,V.reps m args vs∧(execOp a.eval o).run P m.w=(callFunc f vs.toArray).run P m.w) :
  ∃X' H' rd wr,K X' H' rd wr∧StepOK P o S T H X' H' rd wr:=by
 obtain ⟨ns,argsC,X,E,hst,hlow,hsub,hok,hK⟩:=h
 refine ⟨X,H,_,_,hK,fun _ _=>rfl,Nat.le_refl _,by simp,by simp,?_⟩
 intro m a hb hs hob _ _ K Q hk
 obtain ⟨vs,hr1,hr2⟩:=hargs m a hs
 obtain ⟨m1,e1,e2,e3,hb1,hrep⟩:=o_1o ns H m hb (fun k hk ob h=>by
  obtain ⟨b,us,more,k1,k2,k3,k4,_⟩:=hob k (.inl hk) ob h
  exact ⟨b,us,more,k1,k2,k3,k4⟩) hok
 generalize hm3:(⟨fun _=>none,m1.I,m1.w⟩:Mem)=m3
 have i1:m3.I=m1.I:=by rw [←hm3]
 have i2:m3.w=m1.w:=by rw [←hm3]
 have i3:∀n,m3.ρ n=none:=fun n=>by rw [←hm3]
 have hb3:m3.base:=⟨fun k h=>by rw [i2];exact hb1.imm k (by rw [←i1];exact h),fun n b h=>(by rw [i3] at h;cases h),hb1.tabs.mono (fun b h=>by rw [i1];exact h) (fun b h=>by rw [i2])⟩
 have hr3:V.reps m3 argsC vs:=by
  have:=(V.reps_ren (m:=m1) (m':=m3) (θ:=id) (k:=0) i1 i2 (fun n hn=>by omega) argsC vs hlow).1
  rw [V.rens_id0] at this
  exact this (hsub m1 vs (hrep args vs hr1))
 have hR:=E.run m3 vs hb3 hr3 (by simp) (by simp) (fun n _=>i3 n)
 unfold Oper.wp
 rw [hr2]
 rw [i2,e2] at hR
 rcases hR with ⟨v,k1,k2,-⟩ | ⟨k1,k2⟩
 ·rw [k1]
  exact hk v m ⟨hb,Mem.le.refl _ _,V.rep_stab X v hst k2,by simp,fun _ _=>rfl,by simp,by simp⟩
 ·rw [k1]
  refine Calls.mono k2 ?_
  rintro e w' ⟨v,m',rfl,rfl,hE⟩
  have hle:=hE.le
  have hsz:m.w.heap.size≤m'.w.heap.size:=by have:=hle.size;rw [i2,e2] at this;exact this
  have hblk:∀b,b<m.w.heap.size→m'.w.heap[b]?=m.w.heap[b]?:=fun b hb'=>by
   have:=hle.block b (by rw [i2,e2];exact hb') (fun n hn=>by simp at hn)
   rw [i2,e2] at this;exact this
  have key:=hk v ⟨m.ρ,m.I,m'.w⟩ ⟨⟨fun b h=>Nat.lt_of_lt_of_le (hb.imm b h) hsz,fun n b h=>Nat.lt_of_lt_of_le (hb.dom n b h) hsz,hb.tabs.mono (fun _ h=>h) (fun b h=>hblk b (hb.imm b h))⟩,
   ⟨fun _ _ h=>h,fun _ h=>h,by have:=hle.os;rw [i2,e2] at this;exact this,by have:=hle.tape;rw [i2,e2] at this;exact this,by have:=hle.output;rw [i2,e2] at this;exact this,trivial,hsz,fun b h _=>hblk b h,fun b h=>by have:=hle.shape b (by rw [i2,e2];exact h);rw [i2,e2] at this;exact this,fun b h=>hblk b (hb.imm b h),fun _ h=>.inl h,fun _ _ h=>.inl h⟩,
   V.rep_stab X v hst hE.rep,by simp,fun _ _=>rfl,by simp,by simp⟩
  exact key
end
section
open Go.RowKit
section
variable {P:Program} {o:Oper} {T:List V} {H:List (Option Ob)}

theorem o_1q (c:Call) (x:Operand) (t e:TypeId) (n:Int) (ho:o.op = .call c) (hc:c.callee = .builtin .len) (ht:c.argTypes[0]?=some t) (hd:P.underlying t=some (.slice e)) (hx:c.args[0]?=some x)
  (hn:lenV ((X.of x).ev T)=some n):StepOK P o (X.of x).slots T H (.d (.int .i64 n)) H [] [] :=
 StepOK.data fun m a hs=>by
  refine ⟨.int .i64 n,?_,D.rep_int.2 rfl⟩
  have hv:=X.rep' hs (rfl:(X.of x).ev T=_)
  have hargs:(c.args.map a.eval)[0]?=some (a.eval x):=by simp [hx]
  have hl:(Builtin.len_ c.argTypes o.type (c.args.map a.eval)).run P m.w = .ok (.int .i64 n) m.w:=by
   have hsl:∃p k cap,a.eval x = .slice p k cap∧(k:Int)=n:=by
    generalize (X.of x).ev T=y at hv hn
    unfold lenV at hn
    split at hn<;>first | (cases hn;done) | skip
    ·cases hn;rw [V.rep_d] at hv;unfold D.rep at hv;obtain ⟨p,cap,hv,_⟩:=hv;exact ⟨p,_,cap,hv,rfl⟩
    ·cases hn;rw [V.rep_d] at hv;unfold D.rep at hv;exact ⟨none,0,0,hv,rfl⟩
    ·cases hn;rw [V.rep_d] at hv;unfold D.rep at hv;obtain ⟨p,hv⟩:=hv;exact ⟨p,0,0,hv,rfl⟩
    ·cases hn;rw [V.rep_d] at hv;unfold D.rep at hv;obtain ⟨b,cap,hv,_⟩:=hv;exact ⟨_,0,cap,hv,rfl⟩
    ·cases hn;unfold V.rep at hv;obtain ⟨b,_,_,cap,_,_,_,hv,_⟩:=hv;exact ⟨_,_,cap,hv,rfl⟩
    ·cases hn;unfold V.rep at hv;obtain ⟨b,_,cap,_,hv,_⟩:=hv;exact ⟨_,_,cap,hv,rfl⟩
   obtain ⟨p,k,cap,h1,h2⟩:=hsl
   simp [Builtin.len_,ht,hargs,run_underlying hd,h1,goInt,h2]
  simp [execOp,ho,resolve,Go.resolve,hc,invoke,builtin,hl]

theorem o_1r (c:Call) (x:Operand) (t:TypeId) (s:ByteArray) (ho:o.op = .call c) (hc:c.callee = .builtin .len) (ht:c.argTypes[0]?=some t) (hd:P.underlying t=some .string) (hx:c.args[0]?=some x)
  (hn:(X.of x).ev T = .d (.str s)):StepOK P o (X.of x).slots T H (.d (.int .i64 s.size)) H [] [] :=
 StepOK.data fun m a hs=>by
  refine ⟨.int .i64 s.size,?_,D.rep_int.2 rfl⟩
  have hv:=V.rep_str.1 (X.rep' hs hn)
  have hargs:(c.args.map a.eval)[0]?=some (a.eval x):=by simp [hx]
  have hl:(Builtin.len_ c.argTypes o.type (c.args.map a.eval)).run P m.w = .ok (.int .i64 s.size) m.w:=by
   simp [Builtin.len_,ht,hargs,run_underlying hd,hv,goInt]
  simp [execOp,ho,resolve,Go.resolve,hc,invoke,builtin,hl]

theorem o_1s (mx:Bool) {m:Mem}:∀(l:List V) (vs:List Value) (k:IntKind) (n:Int) (k':IntKind) (r:Int),V.reps m l vs→minmaxR mx k n l=some (k',r) →
  (vs.foldlM (if mx then Builtin.max2 else Builtin.min2) (Value.int k n)).run P m.w = .ok (.int k' r) m.w
 | [],vs,k,n,k',r,h,h'=>by
  simp at h;subst h
  simp only [minmaxR,Option.some.injEq,Prod.mk.injEq] at h'
  simp [h'.1,h'.2]
 | x::l,vs,k,n,k',r,h,h'=>by
  obtain ⟨v,u,rfl,h1,h2⟩:=V.reps_cons'.1 h
  unfold minmaxR at h'
  split at h'
  ·cases ‹x::l=[]›
  ·rename_i k2 m2 r2 e
   cases e
   split at h'
   ·rename_i hk
    subst hk
    have hv:=V.rep_int.1 h1
    subst hv
    have ih:=o_1s mx l u k _ k' r h2 h'
    rw [List.foldlM_cons]
    cases mx
    ·have:(Builtin.min2 (.int k n) (.int k m2)).run P m.w = .ok (.int k (min n m2)) m.w:=by
      simp only [Builtin.min2,Sem.run_pure]
      congr 2
      split<;>omega
     simp only [Bool.false_eq_true,if_false,Sem.run_bind,this,Result.andThen_ok] at ih ⊢
     exact ih
    ·have:(Builtin.max2 (.int k n) (.int k m2)).run P m.w = .ok (.int k (max n m2)) m.w:=by
      simp only [Builtin.max2,Sem.run_pure]
      congr 2
      split<;>omega
     simp only [if_true,Sem.run_bind,this,Result.andThen_ok] at ih ⊢
     exact ih
   ·cases h'
  ·cases h'

theorem o_1t (mx:Bool) (c:Call) (k:IntKind) (n:Int) (ho:o.op = .call c) (hc:c.callee = .builtin (if mx then .max else .min)) (hn:minmaxI mx ((c.args.toList.map X.of).map (X.ev T))=some (k,n)) :
  StepOK P o (X.slotss (c.args.toList.map X.of)) T H (.d (.int k n)) H [] [] :=
 StepOK.data fun m a hs=>by
  refine ⟨.int k n,?_,D.rep_int.2 rfl⟩
  have hr:=o_11 (m:=m) (a:=a) c.args.toList hs
  generalize (c.args.toList.map X.of).map (X.ev T)=l at hn hr
  unfold minmaxI at hn
  split at hn
  ·rename_i k' n' l'
   obtain ⟨v,u,e,h1,h2⟩:=V.reps_cons'.1 hr
   have hv:=V.rep_int.1 h1
   subst hv
   have:=o_1s (P:=P) mx l' u k' n' k n h2 hn
   cases mx
   ·simp only [Bool.false_eq_true,if_false] at hc this
    have hb:(Builtin.min_ c.argTypes o.type (c.args.map a.eval)).run P m.w = .ok (.int k n) m.w:=by
     simp only [Builtin.min_,Array.toList_map,e];exact this
    simp [execOp,ho,Go.resolve,hc,invoke,builtin,hb]
   ·simp only [if_true] at hc this
    have hb:(Builtin.max_ c.argTypes o.type (c.args.map a.eval)).run P m.w = .ok (.int k n) m.w:=by
     simp only [Builtin.max_,Array.toList_map,e];exact this
    simp [execOp,ho,Go.resolve,hc,invoke,builtin,hb]
  ·cases hn

theorem o_1u (θ:List Nat):∀(H:List (Option Ob)) (obs:List Ob),θ.length≤obs.length→θ.Nodup→(∀n∈θ,n<H.length) →
  (putAll H θ obs).length=H.length+(obs.length-θ.length)∧(∀i,i<obs.length→(putAll H θ obs).getD (nameOf θ H.length i) none=obs[i]?)∧(∀n,n<H.length→n∉θ→(putAll H θ obs).getD n none=H.getD n none):=by
 induction θ with
 | nil =>
  intro H obs _ _ _
  refine ⟨by simp [putAll],fun i hi=>?_,fun n hn _=>?_⟩
  ·have:nameOf [] H.length i=H.length+i:=by simp [nameOf]
   rw [this,putAll,List.getD_eq_getElem?_getD,List.getElem?_append_right (by omega),Nat.add_sub_cancel_left,List.getElem?_map,List.getElem?_eq_getElem hi];rfl
  ·simp [putAll,List.getD_eq_getElem?_getD,List.getElem?_append_left hn]
 | cons n θ ih =>
  intro H obs hl hnd hlt
  rcases obs with _ | ⟨ob,r⟩
  ·simp at hl
  ·simp only [List.nodup_cons] at hnd
   obtain ⟨h1,h2,h3⟩:=ih (H.set n (some ob)) r (by simpa using hl) hnd.2 (fun k hk=>by simpa using hlt k (by simp [hk]))
   have hn:n<H.length:=hlt n (by simp)
   simp only [List.length_set] at h1 h2 h3
   refine ⟨by simp only [putAll,h1,List.length_cons];omega,fun i hi=>?_,fun k hk hkn=>?_⟩
   ·rcases i with _ | i
    ·have:nameOf (n::θ) H.length 0=n:=by simp [nameOf]
     rw [this,putAll,h3 n hn hnd.1,o_n,if_pos ⟨rfl,hn⟩];rfl
    ·have:nameOf (n::θ) H.length (i+1)=nameOf θ H.length i:=by simp [nameOf]
     rw [this,putAll,h2 i (by simpa using hi)];rfl
   ·simp only [List.mem_cons,not_or] at hkn
    rw [putAll,h3 k hk hkn.2,o_n,if_neg (by omega)]

theorem o_1v (θ:List Nat):∀(dead:List Nat) (H:List (Option Ob)),H.length=(killAll H θ dead).length∧∀n,((∃i∈dead,n=θ.getD i 0)→(killAll H θ dead).getD n none=none)∧((¬∃i∈dead,n=θ.getD i 0)→(killAll H θ dead).getD n none=H.getD n none)
 | [],H=>⟨rfl,fun n=>⟨fun ⟨i,hi,_⟩=>by simp at hi,fun _=>rfl⟩⟩
 | j::r,H=>by
  obtain ⟨h1,h2⟩:=o_1v θ r (H.set (θ.getD j 0) none)
  rw [killAll]
  refine ⟨by rw [←h1,List.length_set],fun n=>⟨fun ⟨i,hi,he⟩=>?_,fun hn=>?_⟩⟩
  ·by_cases hr:∃i∈r,n=θ.getD i 0
   ·exact (h2 n).1 hr
   ·rw [(h2 n).2 hr]
    rcases List.mem_cons.1 hi with rfl | hi
    ·rw [o_n]
     split
     ·rfl
     ·rename_i hc
      rw [List.getD_eq_getElem?_getD,List.getElem?_eq_none (by rcases Nat.lt_or_ge n H.length with h | h;exact absurd ⟨he,by rw [←he];exact h⟩ hc;exact h)];rfl
    ·exact absurd ⟨i,hi,he⟩ hr
  ·rw [(h2 n).2 fun ⟨i,hi,he⟩=>hn ⟨i,List.mem_cons_of_mem _ hi,he⟩,o_n,if_neg]
   rintro ⟨he,_⟩
   exact hn ⟨j,by simp,he⟩

theorem o_1w {θ:List Nat} {L i:Nat} (h:i<θ.length):nameOf θ L i=θ.getD i 0:=by simp [nameOf,h]
theorem o_1x {θ:List Nat} {L i:Nat} (h:θ.length≤i):nameOf θ L i=L+(i-θ.length):=by simp [nameOf,show ¬i<θ.length by omega]
theorem o_1y {θ:List Nat} {i:Nat} (h:i<θ.length):θ.getD i 0∈θ:=by simp [List.getD,h]

def CallR (P:Program) (f:FuncId) (args:List V) (H:List (Option Ob)) (X':V) (H':List (Option Ob)) (wr:List Nat):Prop :=
 (∀n,n∉wr→H'.getD n none=H.getD n none)∧H.length≤H'.length∧(∀n∈wr,n<H'.length)∧(∀n∈wr,live H n∨H.length≤n) ∧
 ∀(m:Mem) (vs:List Value) (o:Oper) (a:Act),m.base→V.reps m args vs→(∀n∈wr,∀ob,H.getD n none=some ob→m.obj n ob) →
  (∀n∈wr,H.length≤n→m.ρ n=none)→(∀n∈wr,∀k∈wr,live H n→live H k→m.ρ n=m.ρ k→n=k)→(execOp a.eval o).run P m.w=(callFunc f vs.toArray).run P m.w →
  ∀K Q,(∀v m',OpPost m H H' wr X' v m'→K (a.put o.dst v) m'.w)→o.wp P a m.w K Q

theorem o_1z {H:List (Option Ob)} {f:FuncId} {args:List V} {K:V→List (Option Ob)→List Nat→List Nat→Prop} (h:CallS0 P f args H K) :
  ∃X' H' wr,K X' H' [] wr∧CallR P f args H X' H' wr:=by
 obtain ⟨θ,argsC,Hs,X0,Hs',dead,E,h1,h2,h3,h4,h5,h6,hK⟩:=h
 obtain ⟨hlen,hold,hlow,hlowo,hrun⟩:=E
 generalize hnm:nameOf θ H.length=nm at *
 have hnlt:∀i,i<Hs.length→nm i=θ.getD i 0:=fun i hi=>by rw [←hnm,o_1w (by omega)]
 have hnge:∀i,Hs.length≤i→nm i=H.length+(i-Hs.length):=fun i hi=>by rw [←hnm,o_1x (by omega),h1]
 obtain ⟨p1,p2,p3⟩:=o_1u θ H (Hs'.map fun ob=>⟨ob.T,V.rens nm ob.c⟩) (by simp;omega) h2 h3
 simp only [List.length_map,hnm] at p1 p2
 obtain ⟨q1,q2⟩:=o_1v θ dead (putAll H θ (Hs'.map fun ob=>⟨ob.T,V.rens nm ob.c⟩))
 generalize hHp:putAll H θ (Hs'.map fun ob=>⟨ob.T,V.rens nm ob.c⟩)=Hp at *
 generalize hH':killAll Hp θ dead=H' at *
 rw [q1] at p1
 have pθ:∀i∈dead,θ.getD i 0=nm i∧i<Hs.length:=fun i hi=>⟨(by rw [←hnm,o_1w (by have:=hold i hi;omega)]),hold i hi⟩
 have nminj:∀i j,i<Hs'.length→j<Hs'.length→nm i=nm j→i=j:=fun i j hi hj he=>by
  rcases Nat.lt_or_ge i Hs.length with a1 | a1
  ·rcases Nat.lt_or_ge j Hs.length with a2 | a2
   ·rw [hnlt i a1,hnlt j a2] at he
    have e1:θ[i]'(by omega)=θ[j]'(by omega):=by simpa [List.getD,show i<θ.length by omega,show j<θ.length by omega] using he
    exact (List.getElem_inj h2).1 e1
   ·rw [hnlt i a1,hnge j a2] at he
    have:=h3 _ (o_1y (θ:=θ) (i:=i) (by omega));omega
  ·rcases Nat.lt_or_ge j Hs.length with a2 | a2
   ·rw [hnge i a1,hnlt j a2] at he
    have:=h3 _ (o_1y (θ:=θ) (i:=j) (by omega));omega
   ·rw [hnge i a1,hnge j a2] at he;omega
 have pdead:∀i∈dead,H'.getD (nm i) none=none:=fun i hi=>by
  rw [(q2 (nm i)).1 ⟨i,hi,(pθ i hi).1.symm⟩]
 have plive:∀i,i<Hs'.length→i∉dead→H'.getD (nm i) none=Hp.getD (nm i) none:=fun i hi hd=>by
  refine (q2 (nm i)).2 fun ⟨j,hj,he⟩=>hd ?_
  rw [(pθ j hj).1] at he
  rw [nminj i j hi (by have:=(pθ j hj).2;omega) he];exact hj
 have p3:∀n,n<H.length→n∉θ→H'.getD n none=H.getD n none:=fun n hn hm=>by
  rw [←p3 n hn hm]
  refine (q2 n).2 fun ⟨j,hj,he⟩=>hm ?_
  rw [he];exact o_1y (by have:=(pθ j hj).2;omega)
 have p2:∀i,i<Hs'.length→∀ob,H'.getD (nm i) none=some ob→i∉dead∧(Hs'.map fun ob=>(⟨ob.T,V.rens nm ob.c⟩:Ob))[i]?=some ob:=fun i hi ob he=>by
  have hd:i∉dead:=fun hd=>by rw [pdead i hd] at he;cases he
  rw [plive i hi hd,p2 i hi] at he
  exact ⟨hd,he⟩
 have pl:∀i,i<Hs'.length→live H' (nm i)→i∉dead:=fun i hi hl hd=>by
  rw [live,pdead i hd] at hl;cases hl
 generalize hwr:θ++(List.range (Hs'.length-Hs.length)).map (H.length + ·)=wr at *
 have hθw:∀i,i<Hs.length→θ.getD i 0∈wr:=fun i hi=>by rw [←hwr];exact List.mem_append_left _ (o_1y (by omega))
 have hwn:∀n,n∈wr↔∃i,i<Hs'.length∧n=nm i:=by
  intro n
  rw [←hwr,List.mem_append,List.mem_map]
  constructor
  ·rintro (hn | ⟨j,hj,rfl⟩)
   ·obtain ⟨i,hi,rfl⟩:=List.getElem_of_mem hn
    exact ⟨i,by omega,by rw [hnlt i (by omega)];simp [List.getD,hi]⟩
   ·rw [List.mem_range] at hj
    exact ⟨Hs.length+j,by omega,by rw [hnge _ (by omega)];omega⟩
  ·rintro ⟨i,hi,rfl⟩
   rcases Nat.lt_or_ge i Hs.length with hlt | hge
   ·exact .inl (by rw [hnlt i hlt];exact o_1y (by omega))
   ·exact .inr ⟨i-Hs.length,by rw [List.mem_range];omega,(hnge i hge).symm⟩
 have hHθ:∀i ob,Hs[i]?=some ob→H.getD (θ.getD i 0) none=some ⟨ob.T,V.rens nm ob.c⟩:=fun i ob hi=>(h4 i ob hi).2
 have ilt:∀{i:Nat} {ob:Ob},Hs[i]?=some ob→i<Hs.length:=fun {i ob} hi=>by
  rcases Nat.lt_or_ge i Hs.length with h | h
  ·exact h
  ·rw [List.getElem?_eq_none h] at hi;cases hi
 have ilt':∀{i:Nat} {ob:Ob},Hs'[i]?=some ob→i<Hs'.length:=fun {i ob} hi=>by
  rcases Nat.lt_or_ge i Hs'.length with h | h
  ·exact h
  ·rw [List.getElem?_eq_none h] at hi;cases hi
 have hlive:∀i,i<Hs.length→live H (θ.getD i 0):=fun i hi=>by
  have:=hHθ i Hs[i] (by simp [hi])
  rw [live,this];rfl
 refine ⟨_,H',wr,hK,?_,by omega,?_,?_,?_⟩
 ·intro n hn
  rcases Nat.lt_or_ge n H.length with hlt | hge
  ·exact p3 n hlt fun hm=>hn (by rw [←hwr];exact List.mem_append_left _ hm)
  ·rw [List.getD_eq_getElem?_getD,List.getD_eq_getElem?_getD,List.getElem?_eq_none,List.getElem?_eq_none hge]
   rcases Nat.lt_or_ge n H'.length with hlt | hge'
   ·exfalso
    refine hn ((hwn n).2 ⟨Hs.length+(n-H.length),by omega,?_⟩)
    rw [hnge _ (by omega)];omega
   ·exact hge'
 ·intro n hn
  obtain ⟨i,hi,rfl⟩:=(hwn n).1 hn
  rcases Nat.lt_or_ge i Hs.length with hlt | hge
  ·rw [hnlt i hlt];have:=h3 _ (o_1y (θ:=θ) (i:=i) (by omega));omega
  ·rw [hnge i hge];omega
 ·intro n hn
  obtain ⟨i,hi,rfl⟩:=(hwn n).1 hn
  rcases Nat.lt_or_ge i Hs.length with hlt | hge
  ·rw [hnlt i hlt];exact .inl (hlive i hlt)
  ·rw [hnge i hge];exact .inr (by omega)
 ·intro m vs o a hb hr1 hob hfr hinj hr2 Kc Q hKc
  -- the callee's memory
  generalize hmc:(⟨fun i=>if i<Hs.length then m.ρ (θ.getD i 0) else none,m.I,m.w⟩:Mem)=mc
  have mcρ:∀i,i<Hs.length→mc.ρ i=m.ρ (nm i):=fun i hi=>by rw [←hmc,hnlt i hi];simp [hi]
  have mcI:mc.I=m.I:=by rw [←hmc]
  have mcw:mc.w=m.w:=by rw [←hmc]
  have hbc:mc.base:=by
   refine ⟨fun b h=>by rw [mcI] at h;rw [mcw];exact hb.imm b h,fun n b h=>?_,hb.tabs.mono (fun b h=>by rw [mcI];exact h) (fun b h=>by rw [mcw])⟩
   rw [←hmc] at h
   simp only at h
   split at h
   ·rw [mcw];exact hb.dom _ b h
   ·cases h
  have hac:V.reps mc argsC vs:=(V.reps_ren mcI mcw mcρ argsC vs h5).1 (h6 m vs hr1)
  have mobj:∀i ob,Hs[i]?=some ob→m.obj (θ.getD i 0) ⟨ob.T,V.rens nm ob.c⟩:=fun i ob hi=>hob _ (hθw i (ilt hi)) _ (hHθ i ob hi)
  have hoc:∀n ob,Hs[n]?=some ob→mc.obj n ob:=fun n ob hn=>by
   obtain ⟨b,us,more,k1,k2,k3,k4,k5⟩:=mobj n ob hn
   exact ⟨b,us,more,by rw [mcρ n (ilt hn),hnlt n (ilt hn)];exact k1,by rw [mcw];exact k2,k3,(V.reps_ren mcI mcw mcρ ob.c us (h4 n ob hn).1).1 k4,by rw [mcI];exact k5⟩
  have mρs:∀i,i<Hs.length→∃b,m.ρ (θ.getD i 0)=some b:=fun i hi=>by
   obtain ⟨b,_,_,k1,_⟩:=mobj i Hs[i] (by simp [hi]);exact ⟨b,k1⟩
  have hic:∀n i b,n<Hs.length→i<Hs.length→mc.ρ n=some b→mc.ρ i=some b→n=i:=fun n i b hn hi h7 h8=>by
   rw [mcρ n hn,hnlt n hn] at h7
   rw [mcρ i hi,hnlt i hi] at h8
   have:=hinj _ (hθw n hn) _ (hθw i hi) (hlive n hn) (hlive i hi) (by rw [h7,h8])
   have e1:θ[n]'(by omega)=θ[i]'(by omega):=by simpa [List.getD,show n<θ.length by omega,show i<θ.length by omega] using this
   exact (List.getElem_inj h2).1 e1
  have htc:∀n,Hs.length≤n→mc.ρ n=none:=fun n hn=>by rw [←hmc];simp [show ¬n<Hs.length by omega]
  have hR:=hrun mc vs hbc hac hoc hic htc
  unfold Oper.wp
  rw [hr2]
  rw [mcw] at hR
  rcases hR with ⟨v,k1,k2,rfl⟩ | ⟨k1,k2⟩
  ·rw [k1]
   refine hKc v m ⟨hb,Mem.le.refl _ _,(V.rep_ren mcI mcw mcρ X0 v hlow).2 k2,fun n hn ob h'=>?_,fun _ _=>rfl,fun n hn _=>?_,fun n hn k hk ln lk he=>?_⟩
   ·obtain ⟨i,hi,rfl⟩:=(hwn n).1 hn
    obtain ⟨-,h'⟩:=p2 i hi ob h'
    simp only [List.getElem?_map,Option.map_eq_some_iff] at h'
    obtain ⟨ob',h7,rfl⟩:=h'
    rw [hnlt i hi];exact mobj i ob' h7
   ·obtain ⟨i,hi,rfl⟩:=(hwn n).1 hn
    obtain ⟨b,h7⟩:=mρs i hi
    rw [hnlt i hi]
    exact ⟨b,h7,.inr ⟨_,hθw i hi,hlive i hi,h7⟩⟩
   ·obtain ⟨i,hi,rfl⟩:=(hwn n).1 hn
    obtain ⟨j,hj,rfl⟩:=(hwn k).1 hk
    refine hinj _ hn _ hk ?_ ?_ he
    ·rw [hnlt i hi];exact hlive i hi
    ·rw [hnlt j hj];exact hlive j hj
  ·rw [k1]
   refine Calls.mono k2 ?_
   rintro e w' ⟨v,mc',rfl,rfl,hE⟩
   obtain ⟨eb,el,er,eo,ei,et,en⟩:=hE
   -- the caller's memory behind it
   generalize hm':(⟨fun n=>if H.length≤n∧n<H.length+(Hs'.length-Hs.length) then mc'.ρ (Hs.length+(n-H.length)) else m.ρ n,mc'.I,mc'.w⟩:Mem)=m'
   have mI:m'.I=mc'.I:=by rw [←hm']
   have mw:m'.w=mc'.w:=by rw [←hm']
   have mρo:∀n,¬(H.length≤n∧n<H.length+(Hs'.length-Hs.length))→m'.ρ n=m.ρ n:=fun n hn=>by rw [←hm'];simp only [if_neg hn]
   have mρ':∀i,i<Hs'.length→mc'.ρ i=m'.ρ (nm i):=fun i hi=>by
    rcases Nat.lt_or_ge i Hs.length with hlt | hge
    ·obtain ⟨b,h7⟩:=mρs i hlt
     have h8:=el.ρ i b (by rw [mcρ i hlt,hnlt i hlt];exact h7)
     have h9:=h3 _ (o_1y (θ:=θ) (i:=i) (by omega))
     rw [h8,hnlt i hlt,mρo _ (by omega),h7]
    ·rw [hnge i hge,←hm']
     simp only [if_pos (show H.length≤H.length+(i-Hs.length)∧H.length+(i-Hs.length)<H.length+(Hs'.length-Hs.length) by omega)]
     congr 1;omega
   have mobj':∀i ob,i∉dead→Hs'[i]?=some ob→m'.obj (nm i) ⟨ob.T,V.rens nm ob.c⟩:=fun i ob hdd hi=>by
    obtain ⟨b,us,more,k3,k4,k5,k6,k7⟩:=eo i ob hdd hi
    exact ⟨b,us,more,by rw [←mρ' i (ilt' hi)];exact k3,by rw [mw];exact k4,k5,(V.reps_ren (m:=m') (m':=mc') mI.symm mw.symm mρ' ob.c us (hlowo ob (List.mem_of_getElem? hi))).2 k6,by rw [mI];exact k7⟩
   have hnew:∀n,H.length≤n∧n<H.length+(Hs'.length-Hs.length)→n∈wr∧∃i,Hs.length≤i∧i<Hs'.length∧n=nm i:=fun n hn=>by
    have:n=nm (Hs.length+(n-H.length)):=by rw [hnge _ (by omega)];omega
    exact ⟨(hwn n).2 ⟨_,by omega,this⟩,_,by omega,by omega,this⟩
   have hsz:m.w.heap.size≤m'.w.heap.size:=by rw [mw,←mcw];exact el.size
   have key:=hKc v m' ⟨?_,?_,?_,?_,?_,?_,?_⟩
   ·rw [mw] at key;exact key
   ·refine ⟨fun b h=>by rw [mI] at h;rw [mw];exact eb.imm b h,fun n b h=>?_,eb.tabs.mono (fun b h=>by rw [mI];exact h) (fun b h=>by rw [mw])⟩
    by_cases hn:H.length≤n∧n<H.length+(Hs'.length-Hs.length)
    ·obtain ⟨_,i,_,hi,rfl⟩:=hnew n hn
     rw [←mρ' i hi] at h
     rw [mw];exact eb.dom i b h
    ·rw [mρo n hn] at h
     exact Nat.lt_of_lt_of_le (hb.dom n b h) hsz
   ·refine ⟨fun n b h=>?_,fun b h=>by rw [mI];exact el.I b (by rw [mcI];exact h),by rw [mw,el.os,mcw],by rw [mw,el.tape,mcw],by rw [mw,el.output,mcw],trivial,hsz,fun b hlt hn=>?_,fun b hlt=>?_,fun b hI=>?_,fun b hI=>?_,fun n b h=>?_⟩
    ·by_cases hn:H.length≤n∧n<H.length+(Hs'.length-Hs.length)
     ·rw [hfr n (hnew n hn).1 hn.1] at h;cases h
     ·rw [mρo n hn];exact h
    ·rw [mw,el.block b (by rw [mcw];exact hlt) fun i hi he=>?_,mcw]
     rw [mcρ i hi,hnlt i hi] at he
     exact hn _ (hθw i hi) he
    ·rw [mw,el.shape b (by rw [mcw];exact hlt),mcw]
    ·rw [mw,el.imm b (by rw [mcI];exact hI),mcw]
    ·rw [mI] at hI
     rcases el.newI b hI with h7 | h7 | ⟨i,hi,he⟩
     ·exact .inl (by rw [mcI] at h7;exact h7)
     ·exact .inr (.inl (by rw [mcw] at h7;exact h7))
     ·rw [mcρ i hi,hnlt i hi] at he
      exact .inr (.inr ⟨_,hθw i hi,he⟩)
    ·by_cases hn:H.length≤n∧n<H.length+(Hs'.length-Hs.length)
     ·obtain ⟨_,i,hi0,hi,rfl⟩:=hnew n hn
      rw [←mρ' i hi] at h
      rcases en i b hi0 h with this | ⟨j,hj,hjd,hjb⟩
      ·rw [mcw] at this;exact .inr (.inl this)
      ·rw [mcρ j hj,hnlt j hj] at hjb
       exact .inr (.inr ⟨_,hθw j hj,hjb⟩)
     ·rw [mρo n hn] at h;exact .inl h
   ·exact (V.rep_ren (m:=m') (m':=mc') mI.symm mw.symm mρ' X0 v hlow).2 er
   ·intro n hn ob h'
    obtain ⟨i,hi,rfl⟩:=(hwn n).1 hn
    obtain ⟨hdd,h'⟩:=p2 i hi ob h'
    simp only [List.getElem?_map,Option.map_eq_some_iff] at h'
    obtain ⟨ob',h7,rfl⟩:=h'
    exact mobj' i ob' hdd h7
   ·intro n hn
    exact mρo n fun hc=>hn (hnew n hc).1
   ·intro n hn ln
    obtain ⟨i,hi,rfl⟩:=(hwn n).1 hn
    obtain ⟨b,_,_,k3,_⟩:=mobj' i Hs'[i] (pl i hi ln) (by simp [hi])
    refine ⟨b,k3,?_⟩
    rcases Nat.lt_or_ge i Hs.length with hlt | hge
    ·obtain ⟨b',h7⟩:=mρs i hlt
     have h8:=el.ρ i b' (by rw [mcρ i hlt,hnlt i hlt];exact h7)
     rw [mρ' i hi,k3] at h8
     cases h8
     exact .inr ⟨_,hθw i hlt,hlive i hlt,h7⟩
    ·rw [←mρ' i hi] at k3
     rcases en i b hge k3 with this | ⟨j,hj,hjd,hjb⟩
     ·rw [mcw] at this;exact .inl this
     ·rw [mcρ j hj,hnlt j hj] at hjb
      exact .inr ⟨_,hθw j hj,hlive j hj,hjb⟩
   ·intro n hn k hk ln lk he
    obtain ⟨i,hi,rfl⟩:=(hwn n).1 hn
    obtain ⟨j,hj,rfl⟩:=(hwn k).1 hk
    obtain ⟨b,_,_,k3,_⟩:=mobj' i Hs'[i] (pl i hi ln) (by simp [hi])
    rw [←mρ' i hi] at k3
    rw [←mρ' i hi,←mρ' j hj] at he
    rw [ei i j b (pl i hi ln) (pl j hj lk) hi hj k3 (he▸k3)]

theorem CallR.frz {f:FuncId} {args:List V} {X':V} {H':List (Option Ob)} {wr:List Nat} {n s:Nat} {ob:Ob} {ds:List D} (hn:H.getD n none=some ob) (hTG:ob.T<TG) (hd:ob.c=ds.map V.d)
  (h:CallR P f (V.frzs n s ds args) (H.set n none) X' H' wr):CallR P f args H X' H' (n::wr):=by
 obtain ⟨h1,h2,h3,h4,h5⟩:=h
 rw [List.length_set] at h2
 have hlt:n<H.length:=by
  rcases Nat.lt_or_ge n H.length with h | h
  ·exact h
  ·rw [List.getD_eq_getElem?_getD,List.getElem?_eq_none h] at hn;cases hn
 have hget:∀k,k≠n→(H.set n none).getD k none=H.getD k none:=fun k hk=>by
  rw [o_n,if_neg (by omega)]
 have hself:(H.set n none).getD n none=none:=by rw [o_n,if_pos ⟨rfl,hlt⟩]
 have hnw:n∉wr:=fun hm=>by
  rcases h4 n hm with h | h
  ·rw [live,hself] at h;cases h
  ·rw [List.length_set] at h;omega
 have hgone:H'.getD n none=none:=by rw [h1 n hnw,hself]
 have hll:∀k,live (H.set n none) k→k≠n∧live H k:=fun k hk=>by
  have:k≠n:=fun e=>by subst e;rw [live,hself] at hk;cases hk
  exact ⟨this,by rwa [live,hget k this] at hk⟩
 have hl':∀k∈n::wr,live H' k→k∈wr:=fun k hk lk=>by
  rcases List.mem_cons.1 hk with rfl | hk
  ·rw [live,hgone] at lk;cases lk
  ·exact hk
 refine ⟨fun k hk=>?_,h2,fun k hk=>?_,fun k hk=>?_,fun m vs o a hb hr hob hfr hinj he K Q hK=>?_⟩
 ·rw [List.mem_cons,not_or] at hk
  rw [h1 k hk.2,hget k hk.1]
 ·rcases List.mem_cons.1 hk with rfl | hk
  ·omega
  ·exact h3 k hk
 ·rcases List.mem_cons.1 hk with rfl | hk
  ·left;rw [live,hn];rfl
  ·rcases h4 k hk with h | h
   ·exact .inl (hll k h).2
   ·rw [List.length_set] at h;exact .inr h
 ·obtain ⟨b,us,more,k1,k2,k3,k4,k5⟩:=hob n (by simp) ob hn
  rw [o_0 hTG] at k2
  generalize hm1:(⟨m.ρ,fun k=>m.I k∨k=b,m.w⟩:Mem)=m1
  have e1:m1.ρ=m.ρ:=by rw [←hm1]
  have e2:m1.w=m.w:=by rw [←hm1]
  have hI:∀k,m.I k→m1.I k:=fun k hk=>by rw [←hm1];exact .inl hk
  have hIb:m1.I b:=by rw [←hm1];exact .inr rfl
  have hI':∀k,m1.I k→m.I k∨k=b:=fun k hk=>by rw [←hm1] at hk;exact hk
  rw [hd,V.reps_map_d] at k4
  have hrd:D.reps m1.I m1.w ds us:=D.reps_mono hI (fun _ _=>by rw [e2]) ds us k4
  have hcell:∀i u,us[i]?=some u→m1.w.cell? ⟨b,i,none⟩=some u:=fun i u hu=>by rw [e2];exact o_7 k2 hu
  have hr1:=V.frzs_rep (m:=m) (m1:=m1) (n:=n) (s:=s) (b:=b) (ds:=ds) (vs:=us) ⟨e1,e2,hI,k1,hIb,k3,hrd,hcell⟩ args vs hr
  have hle:m.le m1 (·∈n::wr):=by
   refine ⟨fun k c hk=>by rw [e1];exact hk,hI,by rw [e2],by rw [e2],by rw [e2],trivial,(by rw [e2];exact Nat.le_refl _),fun _ _ _=>by rw [e2],fun _ _=>by rw [e2],fun _ _=>by rw [e2],fun k hk=>?_,fun k c hk=>.inl (by rw [←e1];exact hk)⟩
   rcases hI' k hk with h | rfl
   ·exact .inl h
   ·exact .inr (.inr ⟨n,by simp,k1⟩)
  have hb1:m1.base:=⟨fun k hk=>by
   rw [e2]
   rcases hI' k hk with h | rfl
   ·exact hb.imm k h
   ·exact hb.dom n _ k1,fun k c hk=>by rw [e2];exact hb.dom k c (by rw [←e1];exact hk),hb.tabs.mono hI (fun _ _=>by rw [e2])⟩
  rw [←e2]
  refine h5 m1 vs o a hb1 hr1 (fun k hk ob' hk'=>?_) (fun k hk hge=>by rw [e1];exact hfr k (by simp [hk]) (by rwa [List.length_set] at hge)) (fun j hj k hk lj lk e=>hinj j (by simp [hj]) k (by simp [hk]) (hll j lj).2 (hll k lk).2 (by rw [←e1];exact e)) (by rw [e2];exact he) K Q (fun v m' hp=>hK v m' ?_)
  ·have hkn:k≠n:=fun e=>by subst e;rw [hself] at hk';cases hk'
   rw [hget k hkn] at hk'
   have lk:live H k:=by rw [live,hk'];rfl
   obtain ⟨c,us',more',j1,j2,j3,j4,j5⟩:=hob k (by simp [hk]) ob' hk'
   refine ⟨c,us',more',by rw [e1];exact j1,by rw [e2];exact j2,j3,V.reps_mono hle _ _ j4,fun hc=>?_⟩
   rcases hI' c hc with h | rfl
   ·exact j5 h
   ·exact hkn (hinj k (by simp [hk]) n (by simp) lk (by rw [live,hn];rfl) (by rw [j1,k1]))
  ·refine ⟨hp.base,hle.trans ?_ (fun _ _ _ h=>h),hp.rep,fun k hk ob' hk'=>hp.obj k (hl' k hk (by rw [live,hk'];rfl)) ob' hk',fun k hk=>?_,fun k hk lk=>?_,fun j hj k hk lj lk e=>hp.inj j (hl' j hj lj) k (hl' k hk lk) lj lk e⟩
   ·have:=hp.le
    refine ⟨this.ρ,this.I,this.os,this.tape,this.output,this.drawn,this.size,fun c hc hM=>this.block c hc fun j hj=>hM j (by simp [hj]),this.shape,this.imm,fun c hc=>?_,fun j c hj=>?_⟩
    ·rcases this.newI c hc with h | h | ⟨j,h6,h7⟩
     ·exact .inl h
     ·exact .inr (.inl h)
     ·exact .inr (.inr ⟨j,by simp [h6],h7⟩)
    ·rcases this.newρ j c hj with h | h | ⟨i,h6,h7⟩
     ·exact .inl h
     ·exact .inr (.inl h)
     ·exact .inr (.inr ⟨i,by simp [h6],h7⟩)
   ·rw [List.mem_cons,not_or] at hk
    rw [hp.keep k hk.2,e1]
   ·obtain ⟨c,h6,h7⟩:=hp.at_ k (hl' k hk lk) lk
    refine ⟨c,h6,?_⟩
    rw [e2] at h7
    rcases h7 with h7 | ⟨j,h8,h9,h10⟩
    ·exact .inl h7
    ·exact .inr ⟨j,by simp [h8],(hll j h9).2,by rw [←e1];exact h10⟩

theorem o_20 {f:FuncId} {args:List V} {K:V→List (Option Ob)→List Nat→List Nat→Prop} {S:List Nat} (h:CallS P f args H K)
  (hargs:∀(m:Mem) (a:Act),Slots m a T S→∃vs:List Value,V.reps m args vs∧(execOp a.eval o).run P m.w=(callFunc f vs.toArray).run P m.w) :
  ∃X' H' rd wr,K X' H' rd wr∧StepOK P o S T H X' H' rd wr:=by
 have fin:∀{X' H' wr},CallR P f args H X' H' wr→StepOK P o S T H X' H' [] wr:=fun {X' H' wr} ⟨h1,h2,h3,h4,h5⟩ =>
  ⟨h1,h2,h3,h4,fun m a hb hs hob hfr hinj K Q hK=>by
   obtain ⟨vs,hr1,hr2⟩:=hargs m a hs
   exact h5 m vs o a hb hr1 (fun n hn=>hob n (.inr hn)) hfr hinj hr2 K Q hK⟩
 rcases h with h | ⟨n,s,ob,ds,hn,hTG,hd,h⟩ | h
 ·obtain ⟨X',H',wr,hK,hr⟩:=o_1z h
  exact ⟨X',H',[],wr,hK,fin hr⟩
 ·rcases h with h | ⟨n2,s2,ob2,ds2,hn2,hT2,hd2,h⟩
  ·obtain ⟨X',H',wr,hK,hr⟩:=o_1z h
   exact ⟨X',H',[],n::wr,hK,fin (hr.frz hn hTG hd)⟩
  ·obtain ⟨X',H',wr,hK,hr⟩:=o_1z h
   exact ⟨X',H',[],n::n2::wr,hK,fin ((hr.frz hn2 hT2 hd2).frz hn hTG hd)⟩
 ·exact o_1p h hargs

end
end
section
open Go.RowKit
section
variable {P:Program} {o:Oper} {T:List V} {H:List (Option Ob)}

theorem Mem.newP {m:Mem} (hb:m.base) (n:Nat) (hn:m.ρ n=none) (ob:Ob) (vs more:List Value) (h1:∀u∈vs,u.oneCell'=true) (hv:V.reps m ob.c vs) (hTG:ob.T<TG) (w1:World) (hh:w1.heap=m.w.heap) (hos:w1.os=m.w.os) (ht:w1.tape=m.w.tape) (ho:w1.output=m.w.output) (hdr:m.w.drawn≤w1.drawn:=by first | exact Nat.le_refl _ | exact Nat.le_succ _) :
  ∃m':Mem,m'.w=w1.alloc (.cells (vs++more).toArray ob.T)∧m'.base∧m.le m' (·∈[n])∧m'.obj n ob∧(∀k,k∉[n]→m'.ρ k=m.ρ k)∧m'.ρ n=some m.w.heap.size:=by
 have hsz:w1.heap.size=m.w.heap.size:=by rw [hh]
 have hblk:∀(x:Obj) (b:Nat),b<m.w.heap.size→(w1.alloc x).heap[b]?=m.w.heap[b]?:=fun x b hlt=>by
  rw [Below.heap_alloc _ _ _ (by omega),hh]
 have hle:m.le ⟨fun k=>if k=n then some m.w.heap.size else m.ρ k,m.I,w1.alloc (.cells (vs++more).toArray ob.T)⟩ (·∈[n]):=by
  refine ⟨fun k b h=>?_,fun _ h=>h,hos,ht,ho,trivial,by simp [hsz],fun b hlt _=>hblk _ b hlt,fun b hlt=>by unfold World.shape?;rw [hblk _ b hlt],fun b hI=>hblk _ b (hb.imm b hI),fun _ h=>.inl h,fun k b h=>?_⟩
  ·dsimp only
   rw [if_neg (fun e=>by subst e;rw [hn] at h;cases h)];exact h
  ·dsimp only at h
   split at h
   ·cases h;exact .inr (.inl (Nat.le_refl _))
   ·exact .inl h
 refine ⟨⟨fun k=>if k=n then some m.w.heap.size else m.ρ k,m.I,w1.alloc (.cells (vs++more).toArray ob.T)⟩,rfl,⟨fun b h=>Nat.lt_of_lt_of_le (hb.imm b h) (by simp [hsz]),fun k b h=>?_,hb.tabs.le hle⟩,hle,⟨m.w.heap.size,vs,more,by simp,by rw [←hsz,o_0 hTG];exact heap_alloc_new _ _,h1,V.reps_mono hle _ _ hv,fun h=>by have:=hb.imm _ h;omega⟩,fun k hk=>by simp at hk;simp [hk],by simp⟩
 dsimp only at h ⊢
 split at h
 ·cases h;simp [hsz]
 ·exact Nat.lt_of_lt_of_le (hb.dom k b h) (by simp [hsz])

theorem o_21 {m:Mem} {v:Value} {y:V} {s k:Nat} {c:List V} {rd:List Nat} {u e':TypeId} (hu:P.underlying u=some (.slice e')) (hv:y.rep m v) (hy:srcV s H y=some (k,c,rd)) (hob:∀n∈rd,∀ob,H.getD n none=some ob→m.obj n ob) (hc:c.length=k*s) :
  ∃news:List Value,Src P s u v k news m.w∧V.reps m c news:=by
 unfold srcV at hy
 split at hy
 ·cases hy
  rw [V.rep_d] at hv
  unfold D.rep at hv
  obtain ⟨p,cap,rfl,h1,h2,vs,h3,h4,h5⟩:=hv
  have hl:=D.reps_len h4
  refine ⟨vs,?_,V.reps_map_d.2 h4⟩
  rcases h5 with ⟨rfl,rfl⟩ | ⟨b,o',rfl,_,h7⟩
  ·obtain rfl:k=0:=by omega
   cases p with
   | none=>exact Src.ofNil m.w hu 0
   | some a=>exact Src.ofSlice m.w hu a 0 0 [] (by simp) (by simp) (by simp)
  ·exact Src.ofSlice m.w hu _ k cap vs (by rw [hl];simpa using hc) (fun j x hx=>by rw [Addr.add_lit];exact h7 j x hx) h3
 ·cases hy
  rw [V.rep_d] at hv
  unfold D.rep at hv
  subst hv
  exact ⟨[],Src.ofNil m.w hu 0,by simp⟩
 ·cases hy
  rw [V.rep_d] at hv
  unfold D.rep at hv
  obtain ⟨p,rfl⟩:=hv
  refine ⟨[],?_,by simp⟩
  cases p with
  | none=>exact Src.ofNil m.w hu 0
  | some a=>exact Src.ofSlice m.w hu a 0 0 [] (by simp) (by simp) (by simp)
 ·cases hy
  rw [V.rep_d] at hv
  unfold D.rep at hv
  obtain ⟨b,cap,rfl,_⟩:=hv
  exact ⟨[],Src.ofSlice m.w hu _ 0 cap [] (by simp) (by simp) (by simp),by simp⟩
 ·rename_i n s' k'
  split at hy
  ·rename_i hs';subst hs'
   rw [Option.bind_eq_some_iff] at hy
   obtain ⟨ob,hn,hy⟩:=hy
   split at hy
   rotate_left
   ·cases hy
   rename_i hTG
   cases hy
   obtain ⟨b,vs,more,h1,h2,h3,h4,h5⟩:=hob n (by simp) ob hn
   rw [o_0 hTG] at h2
   unfold V.rep at hv
   obtain ⟨b',t,z,cap,h1',_,_,rfl,_⟩:=hv
   rw [h1] at h1';cases h1'
   have hr:=V.reps_take h4 (k*s')
   refine ⟨vs.take (k*s'),Src.ofSlice m.w hu _ k cap _ (by rw [V.reps_len hr];exact hc) (fun j x hx=>?_) (fun x hx=>h3 x (List.mem_of_mem_take hx)),hr⟩
   rw [Addr.add_lit,Nat.zero_add]
   refine o_7 h2 ?_
   rw [List.getElem?_take] at hx
   split at hx
   ·exact hx
   ·cases hx
  ·cases hy
 ·rename_i n off k'
  rw [Option.bind_eq_some_iff] at hy
  obtain ⟨ob,hn,hy⟩:=hy
  split at hy
  rotate_left
  ·cases hy
  rename_i hTG
  cases hy
  obtain ⟨b,vs,more,h1,h2,h3,h4,h5⟩:=hob n (by simp) ob hn
  rw [o_0 hTG] at h2
  unfold V.rep at hv
  obtain ⟨b',o',cap,h1',rfl,hoff,_⟩:=hv
  rw [h1] at h1';cases h1'
  have hr:=V.reps_take (V.reps_drop h4 off) (k*s)
  refine ⟨(vs.drop off).take (k*s),Src.ofSlice m.w hu _ k cap _ (by rw [V.reps_len hr];exact hc) (fun j x hx=>?_) (fun x hx=>h3 x (List.mem_of_mem_drop (List.mem_of_mem_take hx))),hr⟩
  rcases hoff with rfl | rfl
  ·simp at hx
  ·rw [Addr.add_lit];exact o_7 h2 (o_i hx)
 ·cases hy

theorem o_22 (c:Call) (x y:Operand) (t u:TypeId) (a:Act) (w:World) (r:Result Value) (ho:o.op = .call c) (hc:c.callee = .builtin .append) (ht:c.argTypes.toList=[t,u]) (ha:c.args.toList=[x,y])
  (hr:(Builtin.append_ #[t,u] o.type #[a.eval x,a.eval y]).run P w=r):(execOp a.eval o).run P w=r.andThen fun v w'=>.ok (.value v) w':=by
 have e1:c.argTypes = #[t,u]:=by rw [←Array.toArray_toList (xs:=c.argTypes),ht]
 have e2:c.args.map a.eval = #[a.eval x,a.eval y]:=by rw [←Array.toArray_toList (xs:=c.args),ha];simp
 subst hr
 simp [execOp,ho,Go.resolve,hc,invoke,builtin,e1,e2]

theorem o_23 (c:Call) (x y:Operand) (t u e:TypeId) (i:TypeInfo) (rd:List Nat) (xv:D) (cs:List V) (ho:o.op = .call c) (hc:c.callee = .builtin .append) (ht:c.argTypes.toList=[t,u]) (ha:c.args.toList=[x,y]) (hu1:P.underlying t=some (.slice e)) (hu2:(∃e',P.underlying u=some (.slice e'))∨P.underlying u=some .string) (hi:P.info? e=some i)
  (hx:(X.of x).ev T = .d xv) (hxv:xv = .nilsl∨xv = .sl0) (hy:∀(m:Mem) (a:Act),Slots m a T (X.of y).slots→(∀n∈rd,∀ob,H.getD n none=some ob→m.obj n ob)→∃news:List Value,Src P i.size u (a.eval y) 0 news m.w∧V.reps m cs news) (hcs:cs.length=0):StepOK P o ((X.of x).slots++(X.of y).slots) T H (.d xv) H rd [] :=
 StepOK.val fun m a hb hs hob=>by
  have hv:=X.rep' (o_9 hs) hx
  have hp:∃p,a.eval x = .slice p 0 0:=by
   rw [V.rep_d] at hv
   rcases hxv with rfl | rfl
   ·unfold D.rep at hv;exact ⟨none,hv⟩
   ·unfold D.rep at hv;obtain ⟨p,hv⟩:=hv;exact ⟨p,hv⟩
  obtain ⟨p,hp⟩:=hp
  obtain ⟨news,hsrc,_⟩:=hy m a (o_a hs) hob
  have hn:news=[]:=List.eq_nil_of_length_eq_zero (by rw [hsrc.newsLen];simp)
  subst hn
  refine ⟨a.eval x,?_,hv⟩
  rw [o_22 c x y t u a m.w _ ho hc ht ha rfl,hp]
  have:(Builtin.append_ #[t,u] o.type #[.slice p 0 0,a.eval y]).run P m.w = .ok (.slice p 0 0) m.w:=by
   cases p with
   | none=>rcases hu2 with ⟨_,hu2⟩ | hu2<;>simp [Builtin.append_,run_underlying hu1,run_underlying hu2,sizeOf,typeInfo,hi,hsrc.len,hsrc.cells]
   | some ad=>rcases hu2 with ⟨_,hu2⟩ | hu2<;>simp [Builtin.append_,run_underlying hu1,run_underlying hu2,sizeOf,typeInfo,hi,hsrc.len,hsrc.cells,storeCells]
  rw [this]
  rfl

theorem o_24 (c:Call) (x y:Operand) (t u e:TypeId) (i:TypeInfo) (z:Value) (k:Nat) (rd:List Nat) (xv:D) (cs:List V) (ho:o.op = .call c) (hc:c.callee = .builtin .append) (ht:c.argTypes.toList=[t,u]) (ha:c.args.toList=[x,y]) (hu1:P.underlying t=some (.slice e)) (hu2:(∃e',P.underlying u=some (.slice e'))∨P.underlying u=some .string) (hi:P.info? e=some i) (hz:i.zero=some z) (hzs:z.cells.size=i.size)
  (hx:(X.of x).ev T = .d xv) (hxv:xv = .nilsl∨xv = .sl0) (hy:∀(m:Mem) (a:Act),Slots m a T (X.of y).slots→(∀n∈rd,∀ob,H.getD n none=some ob→m.obj n ob)→∃news:List Value,Src P i.size u (a.eval y) k news m.w∧V.reps m cs news) (hk:¬k=0) (hs0:0<i.size) (hb0:0<i.bytes) (hcs:cs.length=k*i.size) (hby:k*i.bytes≤140737488355328) (hTG:e<TG) :
  StepOK P o ((X.of x).slots++(X.of y).slots) T H (.own H.length i.size k) (H++[some ⟨e,cs⟩]) rd [H.length] where
 same:=fun n hn=>by
  simp at hn
  rw [List.getD_eq_getElem?_getD,List.getD_eq_getElem?_getD]
  rcases Nat.lt_or_gt_of_ne hn with h | h
  ·rw [List.getElem?_append_left h]
  ·rw [List.getElem?_eq_none (by simp;omega),List.getElem?_eq_none (by omega)]
 len:=by simp
 lt:=by simp
 wlive:=by simp
 run:=by
  intro m a hb hs hob hf _ K Q hK
  have hv:=X.rep' (o_9 hs) hx
  have hp:∃p,a.eval x = .slice p 0 0:=by
   rw [V.rep_d] at hv
   rcases hxv with rfl | rfl
   ·unfold D.rep at hv;exact ⟨none,hv⟩
   ·unfold D.rep at hv;obtain ⟨p,hv⟩:=hv;exact ⟨p,hv⟩
  obtain ⟨p,hp⟩:=hp
  obtain ⟨news,hsrc,hrep⟩:=hy m a (o_a hs) (fun n hn=>hob n (.inl hn))
  have hkm:k≤140737488355328:=Nat.le_trans (Nat.le_mul_of_pos_right _ hb0) hby
  have hold:(Builtin.firstCells i.size 0 (.slice p 0 0)).run P m.w.drew = .ok #[] m.w.drew:=by
   cases p<;>simp [Builtin.firstCells,loadCells,loadCellsFrom]
  have hrun:=run_append_grow_src (P:=P) m.w t u o.type e i z hu1 hi hz p 0 0 [] hold (a.eval y) k news hsrc (by omega) (by omega) (growslice_fits (by omega) (by rw [Nat.zero_add];exact hby))
  rw [Nat.zero_add,List.nil_append] at hrun
  have hge:=grownCap_ge m.w k 0 e
  have hcm:grownCap m.w k 0 e≤maxLen:=grownCap_le_maxLen m.w k 0 e (by unfold maxLen;omega)
  generalize grownCap m.w k 0 e=cap at hrun hge hcm
  obtain ⟨m',hw,hb',hle,ho',hkeep,hρ⟩:=Mem.newP hb H.length (hf _ (by simp) (Nat.le_refl _)) ⟨e,cs⟩ news (Builtin.zeroCells z.cells (cap-k)).toList hsrc.one hrep hTG m.w.drew rfl rfl rfl rfl
  have hcells:(news.toArray++Builtin.zeroCells z.cells (cap-k))=(news++(Builtin.zeroCells z.cells (cap-k)).toList).toArray:=by apply Array.ext';simp
  rw [hcells] at hrun
  unfold Oper.wp
  rw [o_22 c x y t u a m.w _ ho hc ht ha rfl,hp,hrun,←hw]
  refine hK _ m' ⟨hb',hle,?_,fun n hn ob' h'=>?_,hkeep,fun n hn _=>?_,fun n hn k hk _ _ _=>?_⟩
  ·unfold V.rep
   refine ⟨_,e,_,cap,hρ,?_,rfl,rfl,hge,hcm⟩
   rw [hw]
   unfold World.shape?
   rw [show m.w.heap.size=m.w.drew.heap.size from rfl,heap_alloc_new]
   have:(news++(Builtin.zeroCells z.cells (cap-k)).toList).toArray.size=cap*i.size:=by
    simp [size_zeroCells,hzs,hsrc.newsLen]
    rw [←Nat.add_mul]
    congr 1;omega
   simp only [this]
  ·simp at hn;subst hn
   rw [List.getD_eq_getElem?_getD,List.getElem?_append_right (Nat.le_refl _),Nat.sub_self] at h'
   cases h';exact ho'
  ·simp at hn;subst hn;exact ⟨_,hρ,.inl (Nat.le_refl _)⟩
  ·simp at hn hk;omega

theorem o_25 (c:Call) (x y:Operand) (t u e e':TypeId) (i:TypeInfo) (z:Value) (q k:Nat) (rd:List Nat) (l:List D) (cs:List V) (ho:o.op = .call c) (hc:c.callee = .builtin .append) (ht:c.argTypes.toList=[t,u]) (ha:c.args.toList=[x,y]) (hu1:P.underlying t=some (.slice e)) (hu2:P.underlying u=some (.slice e')) (hi:P.info? e=some i) (hz:i.zero=some z) (hzs:z.cells.size=i.size)
  (hx:(X.of x).ev T = .d (.slf q l)) (hll:l.length=q*i.size) (hy:srcV i.size H ((X.of y).ev T)=some (k,cs,rd)) (hk:0<k) (hs0:0<i.size) (hb0:0<i.bytes) (hcs:cs.length=k*i.size) (hby:(q+k)*i.bytes≤140737488355328) (hTG:e<TG) :
  StepOK P o ((X.of x).slots++(X.of y).slots) T H (.own H.length i.size (q+k)) (H++[some ⟨e,l.map .d++cs⟩]) rd [H.length] where
 same:=fun n hn=>by
  simp at hn
  rw [List.getD_eq_getElem?_getD,List.getD_eq_getElem?_getD]
  rcases Nat.lt_or_gt_of_ne hn with h | h
  ·rw [List.getElem?_append_left h]
  ·rw [List.getElem?_eq_none (by simp;omega),List.getElem?_eq_none (by omega)]
 len:=by simp
 lt:=by simp
 wlive:=by simp
 run:=by
  intro m a hb hs hob hf _ K Q hK
  have hv:=X.rep' (o_9 hs) hx
  rw [V.rep_d] at hv
  unfold D.rep at hv
  obtain ⟨p,hp,hqm,vs,v1,v2,v3⟩:=hv
  have hvl:=D.reps_len v2
  obtain ⟨news,hsrc,hrep⟩:=o_21 (P:=P) hu2 (X.rep' (o_a hs) rfl) hy (fun n hn=>hob n (.inl hn)) hcs
  have hkm:q+k≤140737488355328:=Nat.le_trans (Nat.le_mul_of_pos_right _ hb0) hby
  have hold:(Builtin.firstCells i.size q (.slice p q q)).run P m.w.drew = .ok vs.toArray m.w.drew:=by
   have e0:q*i.size=vs.length:=by omega
   rcases v3 with ⟨rfl,rfl,rfl⟩ | ⟨b,o,rfl,v4,v5⟩
   ·simp [Builtin.firstCells]
   ·have:=run_loadCells_list (P:=P) m.w.drew ⟨b,o,none⟩ vs (fun j x hx=>by rw [Addr.add_lit];exact v5 j x hx)
    simp [Builtin.firstCells,e0,this]
  have hrun:=run_append_grow_src (P:=P) m.w t u o.type e i z hu1 hi hz p q q vs hold (a.eval y) k news hsrc (by omega) (by omega) (growslice_fits (by omega) hby)
  have hge:=grownCap_ge m.w (q+k) q e
  have hcm:grownCap m.w (q+k) q e≤maxLen:=grownCap_le_maxLen m.w (q+k) q e (by unfold maxLen;omega)
  generalize grownCap m.w (q+k) q e=cap at hrun hge hcm
  obtain ⟨m',hw,hb',hle,ho',hkeep,hρ⟩:=Mem.newP hb H.length (hf _ (by simp) (Nat.le_refl _)) ⟨e,l.map .d++cs⟩ (vs++news) (Builtin.zeroCells z.cells (cap-(q+k))).toList (fun u hu=>by
   rcases List.mem_append.1 hu with hu | hu
   ·exact v1 u hu
   ·exact hsrc.one u hu) (V.reps_append (V.reps_map_d.2 v2) hrep) hTG m.w.drew rfl rfl rfl rfl
  have hcells:((vs++news).toArray++Builtin.zeroCells z.cells (cap-(q+k)))=((vs++news)++(Builtin.zeroCells z.cells (cap-(q+k))).toList).toArray:=by apply Array.ext';simp
  rw [hcells] at hrun
  unfold Oper.wp
  rw [o_22 c x y t u a m.w _ ho hc ht ha rfl,hp,hrun,←hw]
  refine hK _ m' ⟨hb',hle,?_,fun n hn ob' h'=>?_,hkeep,fun n hn _=>?_,fun n hn k hk _ _ _=>?_⟩
  ·unfold V.rep
   refine ⟨_,e,_,cap,hρ,?_,rfl,rfl,hge,hcm⟩
   rw [hw]
   unfold World.shape?
   rw [show m.w.heap.size=m.w.drew.heap.size from rfl,heap_alloc_new]
   have:((vs++news)++(Builtin.zeroCells z.cells (cap-(q+k))).toList).toArray.size=cap*i.size:=by
    have hnl2:=hsrc.newsLen
    simp only [List.size_toArray,List.length_append,Array.length_toList,size_zeroCells,hzs]
    rw [hvl,hll,hnl2,←Nat.add_mul,←Nat.add_mul]
    congr 1;omega
   simp only [this]
  ·simp at hn;subst hn
   rw [List.getD_eq_getElem?_getD,List.getElem?_append_right (Nat.le_refl _),Nat.sub_self] at h'
   cases h';exact ho'
  ·simp at hn;subst hn;exact ⟨_,hρ,.inl (Nat.le_refl _)⟩
  ·simp at hn hk;omega

theorem o_26 (c:Call) (x y:Operand) (t u e:TypeId) (i:TypeInfo) (z:Value) (n q k:Nat) (rd:List Nat) (ob:Ob) (cs:List V) (ho:o.op = .call c) (hc:c.callee = .builtin .append) (ht:c.argTypes.toList=[t,u]) (ha:c.args.toList=[x,y]) (hu1:P.underlying t=some (.slice e)) (hu2:(∃e',P.underlying u=some (.slice e'))∨P.underlying u=some .string) (hi:P.info? e=some i) (hz:i.zero=some z) (hzs:z.cells.size=i.size)
  (hx:(X.of x).ev T = .own n i.size q) (hn:H.getD n none=some ob) (hy:∀(m:Mem) (a:Act),Slots m a T (X.of y).slots→(∀n∈rd,∀ob,H.getD n none=some ob→m.obj n ob)→∃news:List Value,Src P i.size u (a.eval y) k news m.w∧V.reps m cs news) (hs0:0<i.size) (hb0:0<i.bytes) (hT:ob.T=e) (hoc:ob.c.length=q*i.size) (hcs:cs.length=k*i.size) (hby:(q+k)*i.bytes≤140737488355328) (hTG:e<TG) :
  StepOK P o ((X.of x).slots++(X.of y).slots) T H (.own H.length i.size (q+k)) (H.set n none++[some ⟨e,ob.c++cs⟩]) rd [n,H.length]:=by
 have hnl:n<H.length:=by
  rcases Nat.lt_or_ge n H.length with h | h
  ·exact h
  ·rw [List.getD_eq_getElem?_getD,List.getElem?_eq_none h] at hn;cases hn
 have hget:∀j,(H.set n none++[some (⟨e,ob.c++cs⟩:Ob)]).getD j none=if j=n then none else if j=H.length then some ⟨e,ob.c++cs⟩ else H.getD j none:=fun j=>by
  rw [List.getD_eq_getElem?_getD]
  rcases Nat.lt_or_ge j H.length with h | h
  ·rw [List.getElem?_append_left (by simpa using h),←List.getD_eq_getElem?_getD,o_n]
   simp only [hnl,and_true,show ¬j=H.length by omega,if_false]
  ·rw [List.getElem?_append_right (by simpa using h)]
   simp only [List.length_set,show ¬j=n by omega,if_false]
   rcases Nat.eq_or_lt_of_le h with rfl | h'
   ·simp
   ·rw [if_neg (by omega),List.getElem?_eq_none (by simp;omega),List.getD_eq_getElem?_getD,List.getElem?_eq_none (by omega)]
 refine ⟨fun j hj=>?_,by simp,fun j hj=>?_,fun j hj=>?_,?_⟩
 ·simp at hj
  rw [hget,if_neg hj.1,if_neg hj.2]
 ·simp at hj;simp;omega
 ·simp at hj
  rcases hj with rfl | rfl
  ·exact .inl (by rw [live,hn];rfl)
  ·exact .inr (Nat.le_refl _)
 ·intro m a hb hs hob hf _ K Q hK
  have hv:=X.rep' (o_9 hs) hx
  unfold V.rep at hv
  obtain ⟨b,t',zz,cap,hρ,hsh,hzz,hv,hqc,hcm⟩:=hv
  obtain ⟨b',vs,more,h1,h2,h3,h4,h5⟩:=hob n (.inr (by simp)) ob hn
  rw [o_0 (by rw [hT];exact hTG)] at h2
  rw [hρ] at h1;cases h1
  have hlen:=V.reps_len h4
  obtain ⟨news,hsrc,hrep⟩:=hy m a (o_a hs) (fun n hn=>hob n (.inl hn))
  have hnl2:=hsrc.newsLen
  have htot:(vs++more).length=cap*i.size:=by
   unfold World.shape? at hsh
   rw [h2] at hsh
   simp only [Option.some.injEq,Prod.mk.injEq] at hsh
   have:=hsh.2
   simp at this
   simp;omega
  have hqk:q+k≤140737488355328:=Nat.le_trans (Nat.le_mul_of_pos_right _ hb0) hby
  have hun:=hf H.length (by simp) (Nat.le_refl _)
  have hnH:n≠H.length:=by omega
  unfold Oper.wp
  rw [o_22 c x y t u a m.w _ ho hc ht ha rfl,hv]
  by_cases hroom:q+k≤cap
  ·have hfit:q*i.size+news.length≤(vs++more).length:=by rw [htot,hnl2,←Nat.add_mul];exact Nat.mul_le_mul_right _ hroom
   have hst:=run_storeCells_at P b (q*i.size) ob.T news 0 (vs++more).toArray m.w h2 (by simpa using hfit) hsrc.one
   have hfin:((vs++more).toArray.toList.take (q*i.size+0)++news++(vs++more).toArray.toList.drop (q*i.size+0+news.length)).toArray=((vs++news)++more.drop news.length).toArray:=by
    congr 1
    have e0:q*i.size=vs.length:=by omega
    simp only [Nat.add_zero,e0]
    simp [List.drop_append]
   rw [hfin] at hst
   have hrun:(Builtin.append_ #[t,u] o.type #[.slice (some ⟨b,0,none⟩) q cap,a.eval y]).run P m.w = .ok (.slice (some ⟨b,0,none⟩) (q+k) cap) (m.w.setRow b ((vs++news)++more.drop news.length).toArray):=by
    rcases hu2 with ⟨_,hu2⟩ | hu2<;>simp [Builtin.append_,run_underlying hu1,run_underlying hu2,sizeOf,typeInfo,hi,hsrc.len,hroom,hsrc.cells,Addr.add_lit,hst]
   have hsame:(((vs++news)++more.drop news.length).toArray).size=((vs++more).toArray).size:=by simp at hfit ⊢;omega
   rw [hrun]
   have hle:m.le ⟨fun j=>if j=H.length then some b else m.ρ j,m.I,m.w.setRow b ((vs++news)++more.drop news.length).toArray⟩ (·∈[n,H.length]):=by
    refine ⟨fun j b' h=>?_,fun _ h=>h,rfl,rfl,rfl,trivial,by simp,fun j hj hne=>?_,fun j hj=>o_m h2 hsame j,fun j hj=>?_,fun _ h=>.inl h,fun j b' h=>?_⟩
    ·dsimp only
     rw [if_neg (fun e=>by subst e;rw [hun] at h;cases h)];exact h
    ·exact setRow_other _ _ _ _ fun e=>hne n (by simp) (e▸hρ)
    ·exact setRow_other _ _ _ _ fun e=>h5 (e▸hj)
    ·dsimp only at h
     split at h
     ·cases h;exact .inr (.inr ⟨n,by simp,hρ⟩)
     ·exact .inl h
   refine hK _ ⟨fun j=>if j=H.length then some b else m.ρ j,m.I,m.w.setRow b ((vs++news)++more.drop news.length).toArray⟩ ⟨⟨fun j hj=>by simpa using hb.imm j hj,fun j b' hj=>?_,hb.tabs.le hle⟩,hle,?_,fun j hj ob' h'=>?_,fun j hj=>?_,fun j hj lj=>?_,fun j hj j' hj' lj lj' _=>?_⟩
   ·dsimp only at hj ⊢
    split at hj
    ·cases hj;simpa using hb.dom n b hρ
    ·simpa using hb.dom j b' hj
   ·unfold V.rep
    exact ⟨b,t',zz,cap,by simp,by rw [o_m h2 hsame];exact hsh,hzz,rfl,hroom,hcm⟩
   ·rw [hget] at h'
    split at h'
    ·cases h'
    ·rename_i hjn
     simp [hjn] at hj
     subst hj
     simp at h'
     subst h'
     refine ⟨b,vs++news,more.drop news.length,by simp,by rw [←hT];exact (by rw [o_0 (show ob.T<TG by rw [hT];exact hTG)];exact setRow_heap _ _ _ _ _ _ h2),fun u hu=>?_,V.reps_mono hle _ _ (V.reps_append h4 hrep),h5⟩
     rcases List.mem_append.1 hu with hu | hu
     ·exact h3 u hu
     ·exact hsrc.one u hu
   ·simp at hj;simp [hj.2]
   ·rw [live,hget] at lj
    split at lj
    ·cases lj
    ·rename_i hjn
     simp [hjn] at hj
     subst hj
     exact ⟨b,by simp,.inr ⟨n,by simp,by rw [live,hn];rfl,hρ⟩⟩
   ·rw [live,hget] at lj lj'
    split at lj
    ·cases lj
    ·split at lj'
     ·cases lj'
     ·simp_all
  ·have hold:(Builtin.firstCells i.size q (.slice (some ⟨b,0,none⟩) q cap)).run P m.w.drew = .ok vs.toArray m.w.drew:=by
    have e0:q*i.size=vs.length:=by omega
    have:=run_loadCells_list (P:=P) m.w.drew ⟨b,0,none⟩ vs (fun j x hx=>by rw [Addr.add_lit,Nat.zero_add];exact o_7 h2 hx)
    simp [Builtin.firstCells,e0,this]
   have hrun:=run_append_grow_src (P:=P) m.w t u o.type e i z hu1 hi hz (some ⟨b,0,none⟩) q cap vs hold (a.eval y) k news hsrc (by omega) (by omega) (growslice_fits (by omega) hby)
   have hge:=grownCap_ge m.w (q+k) cap e
   have hcm':grownCap m.w (q+k) cap e≤maxLen:=grownCap_le_maxLen m.w (q+k) cap e (by unfold maxLen;omega)
   generalize grownCap m.w (q+k) cap e=cap' at hrun hge hcm'
   obtain ⟨m',hw,hb',hle,ho',hkeep,hρ'⟩:=Mem.newP hb H.length hun ⟨e,ob.c++cs⟩ (vs++news) (Builtin.zeroCells z.cells (cap'-(q+k))).toList (fun u hu=>by
    rcases List.mem_append.1 hu with hu | hu
    ·exact h3 u hu
    ·exact hsrc.one u hu) (V.reps_append h4 hrep) hTG m.w.drew rfl rfl rfl rfl
   have hcells:((vs++news).toArray++Builtin.zeroCells z.cells (cap'-(q+k)))=((vs++news)++(Builtin.zeroCells z.cells (cap'-(q+k))).toList).toArray:=by apply Array.ext';simp
   rw [hcells] at hrun
   rw [hrun,←hw]
   have hle2:m.le m' (·∈[n,H.length]):=hle.mono fun j b _ hj=>by simp at hj;simp [hj]
   refine hK _ m' ⟨hb',hle2,?_,fun j hj ob' h'=>?_,fun j hj=>hkeep j (by simp at hj;simp [hj.2]),fun j hj lj=>?_,fun j hj j' hj' lj lj' _=>?_⟩
   ·unfold V.rep
    refine ⟨_,e,_,cap',hρ',?_,rfl,rfl,hge,hcm'⟩
    rw [hw]
    unfold World.shape?
    rw [show m.w.heap.size=m.w.drew.heap.size from rfl,heap_alloc_new]
    have:((vs++news)++(Builtin.zeroCells z.cells (cap'-(q+k))).toList).toArray.size=cap'*i.size:=by
     simp only [List.size_toArray,List.length_append,Array.length_toList,size_zeroCells,hzs,hnl2]
     rw [show vs.length=q*i.size by omega,←Nat.add_mul,←Nat.add_mul]
     congr 1;omega
    simp only [this]
   ·rw [hget] at h'
    split at h'
    ·cases h'
    ·rename_i hjn
     simp [hjn] at hj
     subst hj
     simp at h'
     subst h'
     exact ho'
   ·rw [live,hget] at lj
    split at lj
    ·cases lj
    ·rename_i hjn
     simp [hjn] at hj
     subst hj
     exact ⟨_,hρ',.inl (Nat.le_refl _)⟩
   ·rw [live,hget] at lj lj'
    split at lj
    ·cases lj
    ·split at lj'
     ·cases lj'
     ·simp_all

theorem o_27 (c:Call) (x y:Operand) (t u:TypeId) (a:Act) (w:World) (r:Result Value) (ho:o.op = .call c) (hc:c.callee = .builtin .copy) (ht:c.argTypes.toList=[t,u]) (ha:c.args.toList=[x,y])
  (hr:(Builtin.copy_ #[t,u] o.type #[a.eval x,a.eval y]).run P w=r):(execOp a.eval o).run P w=r.andThen fun v w'=>.ok (.value v) w':=by
 have e1:c.argTypes = #[t,u]:=by rw [←Array.toArray_toList (xs:=c.argTypes),ht]
 have e2:c.args.map a.eval = #[a.eval x,a.eval y]:=by rw [←Array.toArray_toList (xs:=c.args),ha];simp
 subst hr
 simp [execOp,ho,Go.resolve,hc,invoke,builtin,e1,e2]

theorem o_28 (c:Call) (x y:Operand) (t u e e':TypeId) (i:TypeInfo) (n off q k:Nat) (rd:List Nat) (ob:Ob) (cs:List V) (ho:o.op = .call c) (hc:c.callee = .builtin .copy) (ht:c.argTypes.toList=[t,u]) (ha:c.args.toList=[x,y]) (hu1:P.underlying t=some (.slice e)) (hu2:P.underlying u=some (.slice e')) (hi:P.info? e=some i)
  (hx:dstV i.size ((X.of x).ev T)=some (n,off,q)) (hn:H.getD n none=some ob) (hy:srcV i.size H ((X.of y).ev T)=some (k,cs,rd)) (hkq:k≤q) (hcs:cs.length=k*i.size) (hl:off+k*i.size≤ob.c.length) (hTG:ob.T<TG) :
  StepOK P o ((X.of x).slots++(X.of y).slots) T H (.d (.int .i64 k)) (H.set n (some ⟨ob.T,setMany ob.c off cs⟩)) rd [n] where
 same:=fun k hk=>by
  simp at hk
  rw [o_n,if_neg (by omega)]
 len:=by simp
 lt:=fun k hk=>by
  simp at hk;subst hk
  rcases Nat.lt_or_ge k H.length with h | h
  ·simpa using h
  ·rw [List.getD_eq_getElem?_getD,List.getElem?_eq_none h] at hn;cases hn
 wlive:=fun k hk=>by simp at hk;subst hk;exact .inl (by rw [live,hn];rfl)
 run:=by
  intro m a hb hs hob _ _ K Q hK
  obtain ⟨b,vs,more,h1,h2,h3,h4,h5⟩:=hob n (.inr (by simp)) ob hn
  rw [o_0 hTG] at h2
  have hlen:=V.reps_len h4
  have hH:(H.set n (some (⟨ob.T,setMany ob.c off cs⟩:Ob))).getD n none=some ⟨ob.T,setMany ob.c off cs⟩:=by
   have hlt:n<H.length:=by
    rcases Nat.lt_or_ge n H.length with h | h
    ·exact h
    ·rw [List.getD_eq_getElem?_getD,List.getElem?_eq_none h] at hn;cases hn
   rw [o_n,if_pos ⟨rfl,hlt⟩]
  have hdst:∃o' cap,a.eval x = .slice (some ⟨b,o',none⟩) q cap∧(q=0∨o'=off):=by
   have hv:=X.rep' (o_9 hs) rfl
   unfold dstV at hx
   split at hx
   ·rename_i n' s' q' he
    split at hx
    ·rename_i hs'
     cases hx
     rw [he] at hv
     unfold V.rep at hv
     obtain ⟨b',t,z,cap,h1',_,_,hv,_⟩:=hv
     rw [h1] at h1';cases h1'
     exact ⟨0,cap,hv,.inr rfl⟩
    ·cases hx
   ·rename_i n' off' q' he
    cases hx
    rw [he] at hv
    unfold V.rep at hv
    obtain ⟨b',o',cap,h1',hv,hoff,_⟩:=hv
    rw [h1] at h1';cases h1'
    exact ⟨o',cap,hv,hoff⟩
   ·cases hx
  obtain ⟨o',cap,hv,hoff⟩:=hdst
  obtain ⟨news,hsrc,hrep⟩:=o_21 (P:=P) hu2 (X.rep' (o_a hs) rfl) hy (fun n hn=>hob n (.inl hn)) hcs
  have hnl:=hsrc.newsLen
  have hmin:Nat.min k q=k:=Nat.min_eq_left hkq
  have hpart:∀w',(storeCells ⟨b,o',none⟩ news).run P m.w = .ok () w'→(Builtin.copy_ #[t,u] o.type #[a.eval x,a.eval y]).run P m.w = .ok (.int .i64 k) w':=by
   intro w' hst
   rw [hv]
   simp [Builtin.copy_,run_underlying hu1,hsrc.len,o_g hi,hmin,hsrc.cells,hst,goInt]
  unfold Oper.wp
  rcases Nat.eq_zero_or_pos news.length with h0 | h0
  ·have hnil:news=[]:=List.eq_nil_of_length_eq_zero h0
   subst hnil
   have hcs0:cs=[]:=List.eq_nil_of_length_eq_zero (by have:=V.reps_len hrep;simp at this;omega)
   subst hcs0
   rw [o_27 c x y t u a m.w _ ho hc ht ha (hpart m.w (by simp [storeCells]))]
   refine hK _ m ⟨hb,Mem.le.refl _ _,V.rep_d.2 (D.rep_int.2 rfl),fun k hk ob' h'=>?_,fun _ _=>rfl,fun k hk _=>?_,fun k hk k' hk' _ _ _=>by simp at hk hk';omega⟩
   ·simp at hk;subst hk
    rw [hH] at h';cases h'
    exact ⟨b,vs,more,h1,by rw [o_0 hTG];exact h2,h3,h4,h5⟩
   ·simp at hk;subst hk
    exact ⟨b,h1,.inr ⟨k,by simp,by rw [live,hn];rfl,h1⟩⟩
  ·have hq:o'=off:=by
    rcases hoff with h | h
    ·exfalso
     have:k=0:=by omega
     rw [this] at hnl
     omega
    ·exact h
   subst hq
   have hst:=run_storeCells_at P b o' ob.T news 0 (vs++more).toArray m.w h2 (by simp;omega) hsrc.one
   have hfin:((vs++more).toArray.toList.take (o'+0)++news++(vs++more).toArray.toList.drop (o'+0+news.length)).toArray=((vs.take o'++news++vs.drop (o'+news.length))++more).toArray:=by
    congr 1
    simp only [Nat.add_zero]
    rw [List.take_append_of_le_length (by omega),List.drop_append_of_le_length (by omega)]
    simp
   rw [hfin] at hst
   generalize hnew:vs.take o'++news++vs.drop (o'+news.length)=nw at hst
   have hsame:((nw++more).toArray).size=((vs++more).toArray).size:=by subst hnew;simp;omega
   have hle:m.le ⟨m.ρ,m.I,m.w.setRow b (nw++more).toArray⟩ (·∈[n]):=by
    refine ⟨fun _ _ h=>h,fun _ h=>h,rfl,rfl,rfl,trivial,by simp,fun k hk hne=>?_,fun k hk=>o_m h2 hsame k,fun k hk=>?_,fun _ h=>.inl h,fun _ _ h=>.inl h⟩
    ·exact setRow_other _ _ _ _ fun e=>hne n (by simp) (e▸h1)
    ·exact setRow_other _ _ _ _ fun e=>h5 (e▸hk)
   rw [o_27 c x y t u a m.w _ ho hc ht ha (hpart _ (by simpa [storeCells] using hst))]
   refine hK _ ⟨m.ρ,m.I,m.w.setRow b (nw++more).toArray⟩ ⟨⟨fun k hk=>by simpa using hb.imm k hk,fun k b' hk=>by simpa using hb.dom k b' hk,hb.tabs.le hle⟩,hle,V.rep_d.2 (D.rep_int.2 rfl),fun k hk ob' h'=>?_,fun _ _=>rfl,fun k hk _=>?_,fun k hk k' hk' _ _ _=>by simp at hk hk';omega⟩
   ·simp at hk;subst hk
    rw [hH] at h';cases h'
    refine ⟨b,nw,more,h1,by rw [o_0 hTG];exact setRow_heap _ _ _ _ _ _ h2,fun u hu=>?_,V.reps_mono hle _ _ (hnew▸o_o o' h4 hrep (by have:=V.reps_len hrep;omega)),h5⟩
    subst hnew
    simp only [List.mem_append] at hu
    rcases hu with (hu | hu) | hu
    ·exact h3 u (List.mem_of_mem_take hu)
    ·exact hsrc.one u hu
    ·exact h3 u (List.mem_of_mem_drop hu)
   ·simp at hk;subst hk
    exact ⟨b,h1,.inr ⟨k,by simp,by rw [live,hn];rfl,h1⟩⟩

end
end
section
open Go.RowKit
section
variable {P:Program} {o:Oper} {T:List V} {H:List (Option Ob)}

theorem o_29 (t:TypeId) (x y:Value):Op.equal t x y=Op.equalIn (9999+1) t x y:=rfl

theorem o_2a (op:BinOp) (t t':TypeId) (x:Operand) (c:Value) (yv:V) (b:Bool) (hop:op = .eql∨op = .neq) (ho:o.op = .binOp op t x (.const c) t') (hx:(X.of x).ev T=yv)
  (heq:∀(m:Mem) (v:Value),yv.rep m v→(Op.equal t v c).run P m.w = .ok b m.w∧(eqGuard op t x (.const c) v c).run P m.w = .ok () m.w∧(∀op,op = .eql→binOp op t v c=(do pure (.bool (←Op.equal t v c))))∧(∀op,op = .neq→binOp op t v c=(do pure (.bool (!(←Op.equal t v c)))))) :
  StepOK P o (X.of x).slots T H (.d (.bool (if op==.neq then !b else b))) H [] [] :=
 StepOK.data fun m a hs=>by
  obtain ⟨h1,h2,h3,h4⟩:=heq m _ (X.rep' hs hx)
  refine ⟨.bool (if op==.neq then !b else b),?_,D.rep_bool.2 rfl⟩
  have e0:a.eval (.const c)=c:=rfl
  rcases hop with rfl | rfl
  ·simp only [execOp,ho,e0,Sem.run_bind,h2,Result.andThen_ok,h3 _ rfl,h1,Sem.run_pure];rfl
  ·simp only [execOp,ho,e0,Sem.run_bind,h2,Result.andThen_ok,h4 _ rfl,h1,Sem.run_pure];rfl

theorem o_2b (op:BinOp) (t t' e:TypeId) (x:Operand) (l k:Nat) (yv:V) (b:Bool) (hop:op = .eql∨op = .neq) (ho:o.op = .binOp op t x (.const (.slice none l k)) t') (hu:P.underlying t=some (.slice e)) (hx:(X.of x).ev T=yv)
  (hy:(yv = .d .nilsl∧b=true)∨(b=false∧((∃n c,yv = .d (.sl n c)∧0<n)∨(∃n s q,yv = .own n s q)∨(yv = .d .sle)∨∃n off q,yv = .row n off q))) :
  StepOK P o (X.of x).slots T H (.d (.bool (if op==.neq then !b else b))) H [] []:=by
 refine o_2a op t t' x _ yv b hop ho hx fun m v hv=>?_
 have hsl:∃p q c,v = .slice p q c∧p.isNone=b:=by
  rcases hy with ⟨rfl,rfl⟩ | ⟨rfl,⟨n,c,rfl,hn⟩ | ⟨n,s,q,rfl⟩ | rfl | ⟨n,off,q,rfl⟩⟩
  ·rw [V.rep_d] at hv;unfold D.rep at hv;exact ⟨none,0,0,hv,rfl⟩
  ·rw [V.rep_d] at hv
   unfold D.rep at hv
   obtain ⟨p,cap,rfl,h1,_,vs,_,_,h5⟩:=hv
   refine ⟨p,n,cap,rfl,?_⟩
   rcases h5 with ⟨h6,_⟩ | ⟨_,_,rfl,_⟩
   ·omega
   ·rfl
  ·unfold V.rep at hv;obtain ⟨_,_,_,cap,_,_,_,rfl,_⟩:=hv;exact ⟨_,q,cap,rfl,rfl⟩
  ·rw [V.rep_d] at hv;unfold D.rep at hv;obtain ⟨_,cap,rfl,_⟩:=hv;exact ⟨_,0,cap,rfl,rfl⟩
  ·unfold V.rep at hv;obtain ⟨_,_,cap,_,rfl,_⟩:=hv;exact ⟨_,q,cap,rfl,rfl⟩
 obtain ⟨p,q,c,rfl,hp⟩:=hsl
 refine ⟨?_,?_,fun op h=>by subst h;rfl,fun op h=>by subst h;rfl⟩
 ·rw [o_29,Op.equalIn]
  cases p<;>simp_all [run_underlying hu]
 ·unfold eqGuard;split<;>rfl

theorem o_2c (op:BinOp) (t t':TypeId) (x:Operand) (ms:Array (String×TypeId)) (yv:V) (b:Bool) (hop:op = .eql∨op = .neq) (ho:o.op = .binOp op t x (.const .nilIface) t') (hu:P.underlying t=some (.interface ms)) (hx:(X.of x).ev T=yv)
  (hy:(yv = .d .nilifc∧b=true)∨(b=false∧∃ty d,yv = .d (.ifc ty d))) :
  StepOK P o (X.of x).slots T H (.d (.bool (if op==.neq then !b else b))) H [] []:=by
 refine o_2a op t t' x _ yv b hop ho hx fun m v hv=>?_
 rcases hy with ⟨rfl,rfl⟩ | ⟨rfl,ty,d,rfl⟩
 ·rw [V.rep_d] at hv
  unfold D.rep at hv
  subst hv
  refine ⟨?_,?_,fun op h=>by subst h;rfl,fun op h=>by subst h;rfl⟩
  ·rw [o_29,Op.equalIn];simp [run_underlying hu]
  ·rcases hop with rfl | rfl<;>simp [eqGuard]
 ·rw [V.rep_d] at hv
  unfold D.rep at hv
  obtain ⟨u,rfl,_⟩:=hv
  refine ⟨?_,?_,fun op h=>by subst h;rfl,fun op h=>by subst h;rfl⟩
  ·rw [o_29,Op.equalIn];simp [run_underlying hu]
  ·unfold eqGuard;split<;>rfl

theorem o_2d (op:BinOp) (t t' e:TypeId) (x:Operand) (yv:V) (b:Bool) (hop:op = .eql∨op = .neq) (ho:o.op = .binOp op t x (.const (.pointer none)) t') (hu:P.underlying t=some (.pointer e)) (hx:(X.of x).ev T=yv)
  (hy:(yv = .d .nilp∧b=true)∨(b=false∧((∃n off,yv = .p n off)∨∃l off,yv = .ia l off))) :
  StepOK P o (X.of x).slots T H (.d (.bool (if op==.neq then !b else b))) H [] []:=by
 refine o_2a op t t' x _ yv b hop ho hx fun m v hv=>?_
 have hp:∃p:Option Addr,v = .pointer p∧p.isNone=b:=by
  rcases hy with ⟨rfl,rfl⟩ | ⟨rfl,⟨n,off,rfl⟩ | ⟨l,off,rfl⟩⟩
  ·rw [V.rep_d] at hv;unfold D.rep at hv;exact ⟨none,hv,rfl⟩
  ·unfold V.rep at hv;obtain ⟨_,_,rfl⟩:=hv;exact ⟨_,rfl,rfl⟩
  ·rw [V.rep_d] at hv;unfold D.rep at hv;obtain ⟨_,_,rfl,_⟩:=hv;exact ⟨_,rfl,rfl⟩
 obtain ⟨p,rfl,hp⟩:=hp
 refine ⟨?_,?_,?_,?_⟩
 ·rw [o_29,Op.equalIn]
  cases p<;>simp_all [run_underlying hu]
 ·unfold eqGuard;split<;>rfl
 ·intro op h;subst h;cases p<;>rfl
 ·intro op h;subst h;cases p<;>rfl

theorem o_2e {d k:Nat} {I:Nat→Prop} {w:World} {t:TypeId} {x y:D} {v u:Value} {b:Bool} (hx:x.rep I w v) (hy:y.rep I w u) (h:eqK k x y=some b) (h0:k=0→∃k',P.underlying t=some (.int k')) (h1:k=1→P.underlying t=some .bool) :
  (Op.equalIn (d+1) t v u).run P w = .ok b w:=by
 unfold eqK at h
 split at h
 ·split at h
  ·rename_i hk'
   subst hk'
   cases h
   obtain ⟨k'',hu⟩:=h0 rfl
   rw [D.rep_int.1 hx,D.rep_int.1 hy,Op.equalIn]
   simp [run_underlying hu]
  ·cases h
 ·cases h
  have hu:=h1 rfl
  rw [D.rep_bool.1 hx,D.rep_bool.1 hy,Op.equalIn]
  simp [run_underlying hu]
 ·cases h

theorem o_2f {d : Nat} {I : Nat → Prop} {w : World} (xs ys : Array Value) (B : Field → Option Bool × Unit → Sem (ForInStep (Option Bool × Unit))) (hB : ∀ f s, B f s = (if f.name ≠ "_" then do
    if !(←Op.equalIn (d+1) f.type (←part f.type xs f.offset) (←part f.type ys f.offset)) then pure (ForInStep.done (some false,())) else pure (ForInStep.yield (none,()))
   else pure (ForInStep.yield (none,())))) :
  ∀(fs:List Field) (i:Nat) (ks:List Nat) (l r:List D) (b:Bool),flatK P i fs=some ks→D.reps I w l (xs.toList.drop i)→D.reps I w r (ys.toList.drop i)→eqKs ks l r=some b →
   (forIn fs ((none,()):Option Bool×Unit) B).run P w = .ok (if b then none else some false,()) w
 | [],i,ks,l,r,b,hf,hl,hr,he=>by
  simp only [flatK,Option.some.injEq] at hf;subst hf
  have:b=true:=by
   unfold eqKs at he
   split at he<;>simp_all
  subst this
  simp
 | f::fs,i,ks,l,r,b,hf,hl,hr,he=>by
  simp only [flatK] at hf
  split at hf
  ·rename_i hc
   obtain ⟨hoff,hnm,hagg⟩:=hc
   have hcons:∃k ks',ks=k::ks'∧flatK P (i+1) fs=some ks'∧(k=0→∃k',P.underlying f.type=some (.int k'))∧(k=1→P.underlying f.type=some .bool):=by
    split at hf
    ·rename_i k' l' h1 h2;cases hf;exact ⟨0,l',rfl,h2,fun _=>⟨_,h1⟩,by simp⟩
    ·rename_i l' h1 h2;cases hf;exact ⟨1,l',rfl,h2,by simp,fun _=>h1⟩
    ·cases hf
   obtain ⟨k,ks',rfl,hf',k0,k1⟩:=hcons
   rcases l with _ | ⟨x,l2⟩
   ·simp [eqKs] at he
   rcases r with _ | ⟨y,r2⟩
   ·simp [eqKs] at he
   simp only [eqKs] at he
   split at he
   ·rename_i a c ha hc'
    cases he
    obtain ⟨v,lv,e1,hxv,hl'⟩:=D.reps_cons'.1 hl
    obtain ⟨u,ru,e2,hyu,hr'⟩:=D.reps_cons'.1 hr
    have g1:xs[i]?=some v:=by
     have:(xs.toList.drop i)[0]?=some v:=by rw [e1];rfl
     rw [List.getElem?_drop] at this
     simpa using this
    have g2:ys[i]?=some u:=by
     have:(ys.toList.drop i)[0]?=some u:=by rw [e2];rfl
     rw [List.getElem?_drop] at this
     simpa using this
    have d1:xs.toList.drop (i+1)=lv:=by rw [←List.drop_drop,e1];rfl
    have d2:ys.toList.drop (i+1)=ru:=by rw [←List.drop_drop,e2];rfl
    have p1:(part f.type xs f.offset).run P w = .ok v w:=by simp [part,o_f hagg,hoff,g1]
    have p2:(part f.type ys f.offset).run P w = .ok u w:=by simp [part,o_f hagg,hoff,g2]
    have q:=o_2e (P:=P) (d:=d) (t:=f.type) hxv hyu ha k0 k1
    rw [List.forIn_cons]
    simp only [hB,hnm,Sem.run_bind,if_true,ne_eq,not_false_eq_true,p1,p2,q,Result.andThen_ok]
    cases a
    ·simp
    ·have ih:=o_2f xs ys B hB fs (i+1) ks' l2 r2 c hf' (by rw [d1];exact hl') (by rw [d2];exact hr') hc'
     simp only [Bool.not_true,Bool.false_eq_true,if_false,Sem.run_pure,Result.andThen_ok,ih,Bool.true_and]
   ·cases he
  ·cases hf

theorem o_2g:∀{ks ks':List Nat} {l r:List D} {b:Bool},eqKs (ks++ks') l r=some b→∃l1 l2 r1 r2 b1 b2,l=l1++l2∧r=r1++r2∧l1.length=ks.length∧r1.length=ks.length∧eqKs ks l1 r1=some b1∧eqKs ks' l2 r2=some b2∧b=(b1&&b2)
 | [],ks',l,r,b,h=>⟨[],l,[],r,true,b,rfl,rfl,rfl,rfl,rfl,h,by simp⟩
 | k::ks,ks',[],r,b,h=>by simp [eqKs] at h
 | k::ks,ks',x::l,[],b,h=>by simp [eqKs] at h
 | k::ks,ks',x::l,y::r,b,h=>by
  simp only [List.cons_append,eqKs] at h
  split at h
  ·rename_i a c ha hc
   cases h
   obtain ⟨l1,l2,r1,r2,b1,b2,rfl,rfl,h1,h2,h3,h4,rfl⟩:=o_2g hc
   exact ⟨x::l1,l2,y::r1,r2,a&&b1,b2,rfl,rfl,by simp [h1],by simp [h2],by simp [eqKs,ha,h3],h4,by simp [Bool.and_assoc]⟩
  ·cases h
theorem o_2h {I:Nat→Prop} {w:World}:∀{l1 l2:List D} {vs:List Value},D.reps I w (l1++l2) vs→D.reps I w l1 (vs.take l1.length)∧D.reps I w l2 (vs.drop l1.length)
 | [],l2,vs,h=>⟨D.reps_nil.2 (by simp),by simpa using h⟩
 | x::l1,l2,vs,h=>by
  obtain ⟨v,u,rfl,hx,hl⟩:=D.reps_cons'.1 h
  obtain ⟨h1,h2⟩:=o_2h hl
  exact ⟨by simpa using D.reps_cons.2 ⟨hx,h1⟩,by simpa using h2⟩

theorem o_2i {d : Nat} {I : Nat → Prop} {w : World} (xs ys : Array Value) (B : Field → Option Bool × Unit → Sem (ForInStep (Option Bool × Unit))) (hB : ∀ f s, B f s = (if f.name ≠ "_" then do
    if !(←Op.equalIn (d+1+1) f.type (←part f.type xs f.offset) (←part f.type ys f.offset)) then pure (ForInStep.done (some false,())) else pure (ForInStep.yield (none,()))
   else pure (ForInStep.yield (none,())))) :
  ∀(fs:List Field) (i:Nat) (ks:List Nat) (l r:List D) (b:Bool),flatK2 P i fs=some ks→D.reps I w l (xs.toList.drop i)→D.reps I w r (ys.toList.drop i)→eqKs ks l r=some b →
   (forIn fs ((none,()):Option Bool×Unit) B).run P w = .ok (if b then none else some false,()) w
 | [],i,ks,l,r,b,hf,hl,hr,he=>by
  simp only [flatK2,Option.some.injEq] at hf;subst hf
  have:b=true:=by
   unfold eqKs at he
   split at he<;>simp_all
  subst this
  simp
 | f::fs,i,ks,l,r,b,hf,hl,hr,he=>by
  simp only [flatK2] at hf
  split at hf
  rotate_left
  ·cases hf
  rename_i hc
  obtain ⟨hoff,hnm⟩:=hc
  cases hagg:aggB P f.type with
  | none=>simp [hagg] at hf
  | some g =>
  cases g with
  | false =>
   rw [hagg] at hf
   simp only at hf
   have hcons:∃k ks',ks=k::ks'∧flatK2 P (i+1) fs=some ks'∧(k=0→∃k',P.underlying f.type=some (.int k'))∧(k=1→P.underlying f.type=some .bool):=by
    split at hf
    ·rename_i k' l' h1 h2;cases hf;exact ⟨0,l',rfl,h2,fun _=>⟨_,h1⟩,by simp⟩
    ·rename_i l' h1 h2;cases hf;exact ⟨1,l',rfl,h2,by simp,fun _=>h1⟩
    ·cases hf
   obtain ⟨k,ks',rfl,hf',k0,k1⟩:=hcons
   rcases l with _ | ⟨x,l2⟩
   ·simp [eqKs] at he
   rcases r with _ | ⟨y,r2⟩
   ·simp [eqKs] at he
   simp only [eqKs] at he
   split at he
   ·rename_i a c ha hc'
    cases he
    obtain ⟨v,lv,e1,hxv,hl'⟩:=D.reps_cons'.1 hl
    obtain ⟨u,ru,e2,hyu,hr'⟩:=D.reps_cons'.1 hr
    have g1:xs[i]?=some v:=by
     have:(xs.toList.drop i)[0]?=some v:=by rw [e1];rfl
     rw [List.getElem?_drop] at this
     simpa using this
    have g2:ys[i]?=some u:=by
     have:(ys.toList.drop i)[0]?=some u:=by rw [e2];rfl
     rw [List.getElem?_drop] at this
     simpa using this
    have d1:xs.toList.drop (i+1)=lv:=by rw [←List.drop_drop,e1];rfl
    have d2:ys.toList.drop (i+1)=ru:=by rw [←List.drop_drop,e2];rfl
    have p1:(part f.type xs f.offset).run P w = .ok v w:=by simp [part,o_f hagg,hoff,g1]
    have p2:(part f.type ys f.offset).run P w = .ok u w:=by simp [part,o_f hagg,hoff,g2]
    have q:=o_2e (P:=P) (d:=d+1) (t:=f.type) hxv hyu ha k0 k1
    rw [List.forIn_cons]
    simp only [hB,hnm,Sem.run_bind,if_true,ne_eq,not_false_eq_true,p1,p2,q,Result.andThen_ok]
    cases a
    ·simp
    ·have ih:=o_2i xs ys B hB fs (i+1) ks' l2 r2 c hf' (by rw [d1];exact hl') (by rw [d2];exact hr') hc'
     simp only [Bool.not_true,Bool.false_eq_true,if_false,Sem.run_pure,Result.andThen_ok,ih,Bool.true_and]
   ·cases he
  | true =>
   rw [hagg] at hf
   simp only at hf
   split at hf
   rotate_left
   ·cases hf
   rename_i gs inf hu hi hst
   split at hf
   rotate_left
   ·cases hf
   rename_i ks1 hk1
   split at hf
   rotate_left
   ·cases hf
   rename_i hsz
   split at hf
   rotate_left
   ·cases hf
   rename_i ks2 hk2
   cases hf
   obtain ⟨l1,l2,r1,r2,b1,b2,rfl,rfl,n1,n2,he1,he2,rfl⟩:=o_2g he
   obtain ⟨q1,q2⟩:=o_2h hl
   obtain ⟨s1,s2⟩:=o_2h hr
   rw [List.drop_drop] at q2 s2
   have x1:(xs.extract i (i+inf.size)).toList=(xs.toList.drop i).take l1.length:=by rw [Array.toList_extract,List.extract_eq_take_drop,n1,hsz];simp
   have x2:(ys.extract i (i+inf.size)).toList=(ys.toList.drop i).take r1.length:=by rw [Array.toList_extract,List.extract_eq_take_drop,n2,hsz];simp
   have p1:(part f.type xs f.offset).run P w = .ok (.agg (xs.extract i (i+inf.size))) w:=by simp [part,o_f hagg,hoff,o_g hi]
   have p2:(part f.type ys f.offset).run P w = .ok (.agg (ys.extract i (i+inf.size))) w:=by simp [part,o_f hagg,hoff,o_g hi]
   have q:(Op.equalIn (d+1+1) f.type (.agg (xs.extract i (i+inf.size))) (.agg (ys.extract i (i+inf.size)))).run P w = .ok b1 w:=by
    rw [Op.equalIn]
    simp only [Sem.run_bind,run_underlying hu,Result.andThen_ok,run_program,hst,Bool.false_eq_true,if_false]
    have:=o_2f (P:=P) (d:=d) (w:=w) (I:=I) (xs.extract i (i+inf.size)) (ys.extract i (i+inf.size)) _ (fun f s=>rfl) gs.toList 0 ks1 l1 r1 b1 hk1 (by rw [List.drop_zero,x1];exact q1) (by rw [List.drop_zero,x2];exact s1) he1
    rw [←Array.forIn_toList]
    rw [this]
    cases b1<;>simp
   rw [List.forIn_cons]
   simp only [hB,hnm,Sem.run_bind,if_true,ne_eq,not_false_eq_true,p1,p2,q,Result.andThen_ok]
   cases b1
   ·simp
   ·have ih:=o_2i xs ys B hB fs (i+ks1.length) ks2 l2 r2 b2 hk2 (by rw [←n1];exact q2) (by rw [←n2];exact s2) he2
    simp only [Bool.not_true,Bool.false_eq_true,if_false,Sem.run_pure,Result.andThen_ok,ih,Bool.true_and]

theorem o_2j (op:BinOp) (t t':TypeId) (x y:Operand) (fs:Array Field) (ks:List Nat) (l r:List D) (b:Bool) (hop:op = .eql∨op = .neq) (ho:o.op = .binOp op t x y t') (hu:P.underlying t=some (.struct fs)) (hst:P.stoodInHeld t=false) (hgt:P.eqGuardType P.depth t=false) (hk:flatK2 P 0 fs.toList=some ks)
  (hx:(X.of x).ev T = .d (.agg l)) (hy:(X.of y).ev T = .d (.agg r)) (he:eqKs ks l r=some b) :
  StepOK P o ((X.of x).slots++(X.of y).slots) T H (.d (.bool (if op==.neq then !b else b))) H [] [] :=
 StepOK.data fun m a hs=>by
  have hv:=X.rep' (o_9 hs) hx
  have hw:=X.rep' (o_a hs) hy
  rw [V.rep_d] at hv hw
  unfold D.rep at hv hw
  obtain ⟨vs,hv,_,h1⟩:=hv
  obtain ⟨us,hw,_,h2⟩:=hw
  have heq:(Op.equal t (.agg vs.toArray) (.agg us.toArray)).run P m.w = .ok b m.w:=by
   rw [o_29,Op.equalIn]
   simp only [Sem.run_bind,run_underlying hu,Result.andThen_ok,run_program,hst,Bool.false_eq_true,if_false]
   have:=o_2i (P:=P) (d:=9997) (w:=m.w) (I:=m.I) vs.toArray us.toArray _ (fun f s=>rfl) fs.toList 0 ks l r b hk (by simpa using h1) (by simpa using h2) he
   rw [←Array.forIn_toList]
   rw [this]
   cases b<;>simp
  have hgd:(eqGuard op t x y (.agg vs.toArray) (.agg us.toArray)).run P m.w = .ok () m.w:=by
   rcases hop with rfl | rfl<;>simp [eqGuard,hgt]
  refine ⟨.bool (if op==.neq then !b else b),?_,D.rep_bool.2 rfl⟩
  rcases hop with rfl | rfl
  ·simp only [execOp,ho,hv,hw,Sem.run_bind,hgd,Result.andThen_ok,binOp,heq,Sem.run_pure];rfl
  ·simp only [execOp,ho,hv,hw,Sem.run_bind,hgd,Result.andThen_ok,binOp,heq,Sem.run_pure];rfl

theorem o_2k (t e:TypeId) (ps:Array (Nat×Operand)) (i:TypeInfo) (ho:o.op = .buildSlice t 0 ps) (hps:ps.size=0) (hu:P.underlying t=some (.slice e)) (hi:P.info? e=some i):StepOK P o [] T H (.d .sl0) H [] [] where
 same:=fun _ _=>rfl
 len:=Nat.le_refl _
 lt:=by simp
 wlive:=by simp
 run:=by
  intro m a hb hs ho' hf _ K Q hK
  have hps':ps = #[]:=Array.eq_empty_of_size_eq_zero hps
  subst hps'
  have hrun:(execOp a.eval o).run P m.w = .ok (.value (.slice (some ⟨m.w.heap.size,0,none⟩) 0 0)) (m.w.alloc (.cells #[] e)):=by
   simp [execOp,ho,Instr.buildSlice,run_underlying hu,o_g hi,Instr.fill,newRow,Array.range_zero']
  unfold Oper.wp
  rw [hrun]
  have hle:m.le ⟨m.ρ,m.I,m.w.alloc (.cells #[] e)⟩ (·∈([]:List Nat)) :=
   ⟨fun _ _ h=>h,fun _ h=>h,rfl,rfl,rfl,trivial,by simp,fun b hlt _=>Below.heap_alloc _ _ _ hlt,fun b hlt=>o_6 hlt,fun b hI=>Below.heap_alloc _ _ _ (hb.imm b hI),fun _ h=>.inl h,fun _ _ h=>.inl h⟩
  refine hK _ ⟨m.ρ,m.I,m.w.alloc (.cells #[] e)⟩ ⟨⟨fun b h=>Nat.lt_of_lt_of_le (hb.imm b h) (by simp),fun k b h=>Nat.lt_of_lt_of_le (hb.dom k b h) (by simp),hb.tabs.le hle⟩,hle,?_,by simp,fun _ _=>rfl,by simp,by simp⟩
  rw [V.rep_d]
  unfold D.rep
  exact ⟨_,rfl⟩

theorem o_2l (t e:TypeId) (x y:Operand) (n:Nat) (i:TypeInfo) (k:IntKind) (a:Int) (ho:o.op = .indexAddr t x y) (hu:P.underlying t=some (.array n e)) (hi:P.info? e=some i) (hy:(X.of y).ev T = .d (.int k a)) (h0:0≤a) (h1:a<n) :
  (∀m off,(X.of x).ev T = .p m off→StepOK P o ((X.of x).slots++(X.of y).slots) T H (.p m (off+a.toNat*i.size)) H [] [])∧(∀l off,(X.of x).ev T = .ia l off→StepOK P o ((X.of x).slots++(X.of y).slots) T H (.ia l (off+a.toNat*i.size)) H [] []):=by
 have key:∀(m:Mem) (b off:Nat),(Instr.indexAt t (.pointer (some ⟨b,off,none⟩)) (.int k a)).run P m.w = .ok (.pointer (some ⟨b,off+a.toNat*i.size,none⟩)) m.w:=by
  intro m b off
  simp [Instr.indexAt,asIntOf,run_underlying hu,Instr.sureAddr,h0,h1,o_g hi,Addr.add_lit]
 constructor
 ·intro nm off hx
  refine StepOK.val fun m ac _ hs _=>?_
  have hv:=X.rep' (o_9 hs) hx
  have hw:=V.rep_int.1 (X.rep' (o_a hs) hy)
  unfold V.rep at hv
  obtain ⟨b,hb,hv⟩:=hv
  refine ⟨.pointer (some ⟨b,off+a.toNat*i.size,none⟩),by simp [execOp,ho,hv,hw,key],?_⟩
  unfold V.rep;exact ⟨b,hb,rfl⟩
 ·intro l off hx
  refine StepOK.val fun m ac _ hs _=>?_
  have hv:=X.rep' (o_9 hs) hx
  have hw:=V.rep_int.1 (X.rep' (o_a hs) hy)
  unfold V.rep D.rep at hv
  obtain ⟨b,o',hv,hr⟩:=hv
  refine ⟨.pointer (some ⟨b,o'+off+a.toNat*i.size,none⟩),by simp [execOp,ho,hv,hw,key],?_⟩
  unfold V.rep D.rep;exact ⟨b,o',by rw [Nat.add_assoc],hr⟩

theorem o_2m (t:TypeId) (x y:Operand) (s:ByteArray) (k:IntKind) (a:Int) (ho:o.op = .index t x y) (hu:P.underlying t=some .string) (hx:(X.of x).ev T = .d (.str s)) (hy:(X.of y).ev T = .d (.int k a)) (h0:0≤a) (h1:a.toNat<s.size) :
  StepOK P o ((X.of x).slots++(X.of y).slots) T H (.d (.int .u8 (s.data.toList.getD a.toNat 0).toNat)) H [] [] :=
 StepOK.data fun m ac hs=>by
  have e1:s[a.toNat]?=some (s.data.toList.getD a.toNat 0):=by
   rw [getElem?_pos s a.toNat h1]
   have h2:a.toNat<s.data.toList.length:=by simpa using h1
   simp only [List.getD,List.getElem?_eq_getElem h2,Option.getD_some]
   rfl
  refine ⟨.int .u8 (s.data.toList.getD a.toNat 0).toNat,?_,D.rep_int.2 rfl⟩
  simp only [execOp,ho,V.rep_str.1 (X.rep' (o_9 hs) hx),V.rep_int.1 (X.rep' (o_a hs) hy),Instr.index,asIntOf,Sem.run_bind,Sem.run_pure,Result.andThen_ok,run_underlying hu,if_pos h0,e1]

end
end
section
open Go.RowKit
section
variable {P:Program} {o:Oper} {T:List V} {H:List (Option Ob)}

theorem o_2n {m:Mem}:∀{c:List V} {ns:List Int} {vs:List Value},intsV c=some ns→V.reps m c vs→vs=ns.map (Value.int .u8)
 | [],ns,vs,h,hr=>by cases h;simpa using hr
 | x::l,ns,vs,h,hr=>by
  unfold intsV at h
  split at h
  ·rename_i h1;cases h1
  ·rename_i n l' h1
   cases h1
   obtain ⟨v,r,rfl,h2,h3⟩:=V.reps_cons'.1 hr
   rw [Option.map_eq_some_iff] at h
   obtain ⟨ns',h4,rfl⟩:=h
   rw [V.rep_int.1 h2,o_2n h4 h3]
   rfl
  ·cases h
theorem o_2o:∀(ns:List Int) (s:ByteArray),ns.foldl (fun r n=>r.push (UInt8.ofNat n.toNat)) s=⟨s.data++(ns.map fun n=>UInt8.ofNat n.toNat).toArray⟩
 | [],s=>by simp
 | n::ns,s=>by
  rw [List.foldl_cons,o_2o ns]
  congr 1
  apply Array.ext'
  simp [ByteArray.push]
theorem o_2p {m:Mem} {v:Value} {y:V} {s k:Nat} {c:List V} {rd:List Nat} (hv:y.rep m v) (hy:srcV s H y=some (k,c,rd)):∃pa cap,v = .slice pa k cap:=by
 unfold srcV at hy
 split at hy
 ·cases hy
  rw [V.rep_d] at hv
  unfold D.rep at hv
  obtain ⟨p,cap,rfl,_⟩:=hv
  exact ⟨_,_,rfl⟩
 ·cases hy
  rw [V.rep_d] at hv
  unfold D.rep at hv
  exact ⟨_,_,hv⟩
 ·cases hy
  rw [V.rep_d] at hv
  unfold D.rep at hv
  obtain ⟨p,rfl⟩:=hv
  exact ⟨_,_,rfl⟩
 ·cases hy
  rw [V.rep_d] at hv
  unfold D.rep at hv
  obtain ⟨b,cap,rfl,_⟩:=hv
  exact ⟨_,_,rfl⟩
 ·split at hy
  ·rw [Option.bind_eq_some_iff] at hy
   obtain ⟨ob,hn,hy⟩:=hy
   split at hy
   rotate_left
   ·cases hy
   cases hy
   unfold V.rep at hv
   obtain ⟨b',t,z,cap,_,_,_,rfl,_⟩:=hv
   exact ⟨_,_,rfl⟩
  ·cases hy
 ·rw [Option.bind_eq_some_iff] at hy
  obtain ⟨ob,hn,hy⟩:=hy
  split at hy
  rotate_left
  ·cases hy
  cases hy
  unfold V.rep at hv
  obtain ⟨b',o',cap,_,rfl,_⟩:=hv
  exact ⟨_,_,rfl⟩
 ·cases hy

theorem o_2q (t u e:TypeId) (x:Operand) (k:Nat) (c:List V) (rd:List Nat) (ns:List Int) (ho:o.op = .convert t u x) (ht:P.underlying t=some (.slice e)) (hu:P.underlying u=some .string) (he:P.underlying e=some (.int .u8))
  (hy:srcV 1 H ((X.of x).ev T)=some (k,c,rd)) (hn:intsV c=some ns) (hc:c.length=k):StepOK P o (X.of x).slots T H (.d (.str (strOf ns))) H rd [] :=
 StepOK.val fun m ac hb hs hob=>by
  have hv:=X.rep' hs rfl
  obtain ⟨pa,cap,hsh⟩:=o_2p hv hy
  obtain ⟨news,hsrc,hr⟩:=o_21 (P:=P) ht hv hy hob (by omega)
  have hns:=o_2n hn hr
  subst hns
  refine ⟨.string (strOf ns),?_,V.rep_d.2 (D.rep_str.2 rfl)⟩
  have hcl:=hsrc.cells
  rw [hsh] at hcl
  have hrun:(convert t u (ac.eval x)).run P m.w = .ok (.string (strOf ns)) m.w:=by
   rw [hsh,run_convert_bytes_string m.w t u e _ k cap ht he hu]
   cases pa with
   | none =>
    have hnl:ns=[]:=by
     simp [Builtin.firstCells] at hcl
     simpa using hcl
    subst hnl
    simp [Conv.bytesToString,strOf]
    rfl
   | some a =>
    rw [run_bytesToString m.w a k cap ns (by simpa [Builtin.firstCells] using hcl),o_2o]
    simp [strOf]
  simp [execOp,ho,hrun]

theorem o_2r (t e:TypeId) (g:Nat) (l:List D) (y:Operand) (n:Nat) (i:TypeInfo) (k:IntKind) (a:Int) (ho:o.op = .indexAddr t (.global g) y) (hu:P.underlying t=some (.array n e)) (hi:P.info? e=some i) (hg:tab g=some l)
  (hy:(X.of y).ev T = .d (.int k a)) (h0:0≤a) (h1:a<n):StepOK P o (X.of y).slots T H (.ia l (a.toNat*i.size)) H [] [] :=
 StepOK.val fun m ac hb hs _=>by
  have key:∀(m:Mem),(Instr.indexAt t (.pointer (some ⟨g,0,none⟩)) (.int k a)).run P m.w = .ok (.pointer (some ⟨g,a.toNat*i.size,none⟩)) m.w:=by
   intro m
   simp [Instr.indexAt,asIntOf,run_underlying hu,Instr.sureAddr,h0,h1,o_g hi,Addr.add_lit]
  have hge:ac.eval (.global g) = .pointer (some ⟨g,0,none⟩):=rfl
  have ht:=hb.tabs g l hg
  have hw:=V.rep_int.1 (X.rep' hs hy)
  unfold D.rep at ht
  obtain ⟨b,o',he,hI,vs,h3,h4,h5⟩:=ht
  simp at he
  obtain ⟨rfl,rfl⟩:=he
  refine ⟨.pointer (some ⟨g,a.toNat*i.size,none⟩),by simp [execOp,ho,hw,hge,key],?_⟩
  unfold V.rep D.rep;exact ⟨g,0,by simp,hI,vs,h3,h4,h5⟩

theorem o_2s {n s:Nat}:∀(L:List (Nat×Value)) (cs r:Array Value),Instr.fill (((List.range n).map fun j=>(j*s,s))[·]?) cs L=some r→Instr.fill (fun j=>some (j*s,s)) cs L=some r:=by
 have hpl:∀(k:Nat) p,((List.range n).map fun j=>(j*s,s))[k]?=some p→p=(k*s,s):=by
  intro k p hk
  simp only [List.getElem?_map,Option.map_eq_some_iff] at hk
  obtain ⟨j,hj,rfl⟩:=hk
  rw [List.getElem?_range] at hj
  ·cases hj;rfl
  ·rcases Nat.lt_or_ge k n with h | h
   ·exact h
   ·rw [List.getElem?_eq_none (by simpa using h)] at hj;cases hj
 intro L
 induction L with
 | nil=>intro cs r h;simpa [Instr.fill] using h
 | cons p L ih =>
  intro cs r h
  obtain ⟨j,v⟩:=p
  simp only [Instr.fill] at h ⊢
  split at h
  ·cases h
  ·rename_i off s' hk
   have:=hpl j _ hk
   simp only [Prod.mk.injEq] at this
   obtain ⟨rfl,rfl⟩:=this
   split at h
   ·cases h
   ·rename_i hne
    rw [if_neg hne]
    exact ih _ _ h
theorem o_2t (t e:TypeId) (n:Nat) (ps:Array (Nat×Operand)) (z:List D) (j:TypeInfo) (l:List (Nat×Nat×X)) (c:List V) (ho:o.op = .build t ps) (hu:P.underlying t=some (.array n e)) (hz:zeroOf P t=some z) (hj:P.info? e=some j)
  (hp:partsOf ((List.range n).map fun i=>(i*j.size,j.size)) ps.toList=some l) (hc:fillV (z.map .d) (l.map fun p=>(p.1,p.2.1,p.2.2.ev T))=some c):StepOK P o (l.flatMap fun p=>p.2.2.slots) T H (mkAgg c) H [] [] :=
 StepOK.val fun m a hb hs _=>by
  unfold zeroOf at hz
  cases hi:P.info? t with
  | none=>simp [hi] at hz
  | some i =>
   cases hzz:i.zero with
   | none=>simp [hi,hzz] at hz
   | some v =>
    simp [hi,hzz] at hz
    obtain ⟨h1,h2⟩:=D.ofs_rep m.I m.w hz
    obtain ⟨cells',h3,h4,h5⟩:=o_t (m:=m) (a:=a) _ ps.toList l (z.map .d) c v.cells hp hs hc (V.reps_map_d.2 h1) h2
    have hbu:P.built t (ps.map fun (i,x)=>(i,a.eval x)).toList=some cells':=by
     simp only [Program.built,hi,hu,hzz,hj]
     simpa using o_2s _ _ _ h3
    refine ⟨.agg cells',?_,by have:=o_3 h4 h5;simpa using this⟩
    have:=run_build (P:=P) m.w t (ps.map fun (i,x)=>(i,a.eval x)) cells' hbu
    simp [execOp,ho,this]

theorem o_2u (t e:TypeId) (x y:Operand) (n:Nat) (q:Bool) (i:TypeInfo) (k:IntKind) (a:Int) (ho:o.op = .index t x y) (hu:P.underlying t=some (.array n e)) (hq:aggB P e=some q) (hi:P.info? e=some i) (hy:(X.of y).ev T = .d (.int k a)) (h0:0≤a) (h1:a<n) :
  (∀l:List D,(X.of x).ev T = .d (.agg l)→(q=true→a.toNat*i.size+i.size≤l.length→StepOK P o ((X.of x).slots++(X.of y).slots) T H (.d (.agg ((l.drop (a.toNat*i.size)).take i.size))) H [] [])∧(q=false→a.toNat*i.size<l.length→StepOK P o ((X.of x).slots++(X.of y).slots) T H (.d (l.getD (a.toNat*i.size) default)) H [] [])) ∧
  (∀l:List V,(X.of x).ev T = .agg l→(q=true→a.toNat*i.size+i.size≤l.length→StepOK P o ((X.of x).slots++(X.of y).slots) T H (mkAgg ((l.drop (a.toNat*i.size)).take i.size)) H [] [])∧(q=false→a.toNat*i.size<l.length→StepOK P o ((X.of x).slots++(X.of y).slots) T H (l.getD (a.toNat*i.size) .junk) H [] [])):=by
 have key:∀(m:Mem) (vs:List Value),(q=true→(Instr.index t (.agg vs.toArray) (.int k a)).run P m.w = .ok (.agg ((vs.drop (a.toNat*i.size)).take i.size).toArray) m.w)∧(q=false→∀u,vs[a.toNat*i.size]?=some u→(Instr.index t (.agg vs.toArray) (.int k a)).run P m.w = .ok u m.w):=by
  intro m vs
  constructor
  ·rintro rfl
   have:(vs.take (a.toNat*i.size+i.size)).drop (a.toNat*i.size)=(vs.drop (a.toNat*i.size)).take i.size:=by rw [List.drop_take];congr 1;omega
   simp [Instr.index,asIntOf,run_underlying hu,h0,h1,part,o_f hq,o_g hi,this]
  ·rintro rfl u hu'
   simp [Instr.index,asIntOf,run_underlying hu,h0,h1,part,o_f hq,o_g hi,hu']
 refine ⟨fun l hx=>⟨fun hqt hl=>?_,fun hqt hl=>?_⟩,fun l hx=>⟨fun hqt hl=>?_,fun hqt hl=>?_⟩⟩
 ·refine StepOK.val fun m ac _ hs _=>?_
  have hv:=X.rep' (o_9 hs) hx
  have hw:=V.rep_int.1 (X.rep' (o_a hs) hy)
  simp only [V.rep_d] at hv ⊢
  unfold D.rep at hv
  obtain ⟨vs,hv,h1,h2⟩:=hv
  refine ⟨.agg ((vs.drop (a.toNat*i.size)).take i.size).toArray,by simp [execOp,ho,hv,hw,(key m vs).1 hqt],?_⟩
  unfold D.rep
  exact ⟨_,rfl,fun u hu=>h1 u (List.mem_of_mem_drop (List.mem_of_mem_take hu)),D.reps_take (D.reps_drop h2 _) _⟩
 ·refine StepOK.val fun m ac _ hs _=>?_
  have hv:=X.rep' (o_9 hs) hx
  have hw:=V.rep_int.1 (X.rep' (o_a hs) hy)
  simp only [V.rep_d] at hv ⊢
  unfold D.rep at hv
  obtain ⟨vs,hv,h1,h2⟩:=hv
  obtain ⟨u,hu',hr⟩:=D.reps_get h2 (a.toNat*i.size) l[a.toNat*i.size] (by simp [hl])
  exact ⟨u,by simp [execOp,ho,hv,hw,(key m vs).2 hqt u hu'],by simpa [List.getD,hl] using hr⟩
 ·refine StepOK.val fun m ac _ hs _=>?_
  have hv:=X.rep' (o_9 hs) hx
  have hw:=V.rep_int.1 (X.rep' (o_a hs) hy)
  unfold V.rep at hv
  obtain ⟨vs,hv,h1,h2⟩:=hv
  exact ⟨.agg ((vs.drop (a.toNat*i.size)).take i.size).toArray,by simp [execOp,ho,hv,hw,(key m vs).1 hqt],o_3 (V.reps_take (V.reps_drop h2 _) _) fun u hu=>h1 u (List.mem_of_mem_drop (List.mem_of_mem_take hu))⟩
 ·refine StepOK.val fun m ac _ hs _=>?_
  have hv:=X.rep' (o_9 hs) hx
  have hw:=V.rep_int.1 (X.rep' (o_a hs) hy)
  unfold V.rep at hv
  obtain ⟨vs,hv,h1,h2⟩:=hv
  obtain ⟨u,hu',hr⟩:=V.reps_get h2 (a.toNat*i.size) l[a.toNat*i.size] (by simp [hl])
  exact ⟨u,by simp [execOp,ho,hv,hw,(key m vs).2 hqt u hu'],by simpa [List.getD,hl] using hr⟩

theorem o_2v (t e:TypeId) (x:Operand) (lo hi:Option Operand) (n:Nat) (i:TypeInfo) (mm off:Nat) (a b:Int) (ho:o.op = .slice t x lo hi none) (hu:P.underlying t=some (.array n e)) (hi':P.info? e=some i)
  (hx:(X.of x).ev T = .p mm off) (ha:bnd T 0 (lo.map X.of)=some a) (hb:bnd T n (hi.map X.of)=some b) (h0:0≤a) (h1:a≤b) (h2:b≤n) (h3:n≤140737488355328) :
  StepOK P o ((X.of x).slots++(optS (lo.map X.of)++optS (hi.map X.of))) T H (.row mm (off+a.toNat*i.size) (b-a).toNat) H [] [] :=
 StepOK.val fun m ac _ hs _=>by
  have hlo:=o_1i lo (o_9 (o_a hs)) ha
  have hhi:=o_1i hi (o_a (o_a hs)) hb
  have hv:=X.rep' (o_9 hs) hx
  have sb:∀(k:IntKind) (i:Int) (y:Nat) (c:BoundsCode),0≤i→i≤y→(Instr.sliceBound (.int k i) y c).run P m.w = .ok i.toNat m.w:=by
   intro k i y c h3 h4
   simp only [Instr.sliceBound,asIntOf,Sem.run_bind,Sem.run_pure,Result.andThen_ok,if_pos (And.intro h3 h4)]
  have hbr:(Instr.sliceBounds false n n (lo.map ac.eval) (hi.map ac.eval) none).run P m.w = .ok (a.toNat,b.toNat,n) m.w:=by
   unfold Instr.sliceBounds
   rcases hhi with ⟨rfl,rfl⟩ | ⟨y,k,rfl,hy⟩
   ·rcases hlo with ⟨rfl,rfl⟩ | ⟨y',k',rfl,hy'⟩
    ·simp
    ·simp [hy',sb _ _ _ _ h0 h1]
   ·rcases hlo with ⟨rfl,rfl⟩ | ⟨y',k',rfl,hy'⟩
    ·simp [hy,sb _ _ _ _ (Int.le_trans h0 h1) h2]
    ·have h1':a≤((b.toNat:Nat):Int):=by omega
     simp [hy,hy',sb _ _ _ _ (Int.le_trans h0 h1) h2,sb _ _ _ _ h0 h1']
  unfold V.rep at hv
  obtain ⟨bl,hbl,hv⟩:=hv
  refine ⟨.slice (some (if n=a.toNat then ⟨bl,off,none⟩ else ⟨bl,off+a.toNat*i.size,none⟩)) (b.toNat-a.toNat) (n-a.toNat),?_,?_⟩
  ·simp [execOp,ho,hv,Instr.sliceAt,run_underlying hu,Instr.sureAddr,hbr,o_g hi',Addr.add_lit]
  ·unfold V.rep
   refine ⟨bl,if n=a.toNat then off else off+a.toNat*i.size,n-a.toNat,hbl,?_,?_,by omega,by unfold maxLen;omega⟩
   ·have e:b.toNat-a.toNat=(b-a).toNat:=by omega
    rw [e]
    split<;>rfl
   ·split
    ·left;omega
    ·right;rfl
end
end
end Go.Proofs.YtdakiocgijlgiaaGreatDoor.Am
