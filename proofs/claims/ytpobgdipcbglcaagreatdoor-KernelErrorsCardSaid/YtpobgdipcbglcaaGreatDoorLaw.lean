/- Parts of the proof: KeH, KeI, AmLaw, AmTT, TabL, AmLaw2, AmLaw3, KeL. -/
import Derived.Test.YtpobgdipcbglcaaGreatDoorPj
set_option linter.unusedVariables false
set_option linter.unusedSimpArgs false
set_option maxRecDepth 100000
namespace Go.Proofs.YtpobgdipcbglcaaGreatDoor.Am
section
open Go.RowKit
theorem o_ma (k:Int):Eqn Tryz.prog o_a2 [.d (.agg (itK k))] [] (.d (.bool false)) []:=by
 have hw:=o_m8
 refine Eqn.pure o_a4 (o_5o _) ?_
 simp only [o_a3,itK] at hw ⊢
 by_cases h1:k=1
 ·subst h1
  refine A01 hw ?_;try with_reducible exact tt
 by_cases h2:k=2
 ·subst h2
  refine A00 ?_;try with_reducible exact tt
 by_cases h3:k=3
 ·subst h3
  refine A00 ?_;try with_reducible exact tt
 by_cases h4:k=4
 ·subst h4
  refine A00 ?_;try with_reducible exact tt
 by_cases h5:k=5
 ·subst h5
  refine A00 ?_;try with_reducible exact tt
 refine A10 (fs h1 (fs h2 (fs h3 (fs h4 h5)))) ?_;try with_reducible exact tt
theorem o_mb (k:Int):Eqn Tryz.prog o_a5 [.d (.agg (itK k))] [] (.d (.int .i64 1)) []:=by
 have hg:=o_ma k
 refine Eqn.pure o_a7 (o_5o _) ?_
 simp only [o_a6,itK] at hg ⊢
 refine A01 hg ?_;try with_reducible exact tt
theorem o_mc (k:Int):Eqn Tryz.prog o_eh [.d (.agg (itK k)),.d (.int .i64 0),.d (.int .i64 1)] [] (.tup [.d .nilsl,.d (.int .i64 1)]) []:=by
 have hg:=o_mb k
 refine Eqn.pure o_ej (o_ho _ _) ?_
 simp only [o_ei,itK] at hg ⊢
 refine A01 hg ?_;try with_reducible exact tt
theorem o_md (k key n:Int):Eqn Tryz.prog o_gz [.d (.agg (itK k)),.d (.int .u64 key),.d (.int .i64 n)] [] (.tup [.d .nilsl,.d (.int .i64 1)]) []:=by
 have hg:=o_mb k
 refine Eqn.pure o_h1 (o_ho _ _) ?_
 simp only [o_h0,itK] at hg ⊢
 refine A01 hg ?_;try with_reducible exact tt
theorem o_me (key n:Int):Eqn Tryz.prog o_gz [.d (.agg (itX 1 0)),.d (.int .u64 key),.d (.int .i64 n)] [] (.tup [.d .nilsl,.d (.int .i64 10)]) []:=by
 have hg:=o_m7
 refine Eqn.pure o_h1 (o_ho _ _) ?_
 simp only [o_h0,itX] at hg ⊢
 refine A01 hg ?_;try with_reducible exact tt
theorem o_mf (n:Int) (hn:17≤n):Eqn Tryz.prog o_ek [.d (.agg (itX 1 0)),.d (.int .i64 0),.d (.int .i64 n)] [] (.d (.int .i64 (if 1048576<n then 2 else 12))) []:=by
 refine Eqn.pure o_em (o_5o _) ?_
 simp only [o_el,itX]
 have h0:¬n<0:=by omega
 have h16:16<n:=by omega
 by_cases h1:1048576<n
 ·rw [if_pos h1]
  refine A10 (fs h0 (fs h1 h16)) ?_;try with_reducible exact tt
 ·rw [if_neg h1]
  refine A10 (fs h0 (fs h1 h16)) ?_;try with_reducible exact tt
theorem o_mg (n:Int) (hn:17≤n):Eqn Tryz.prog o_eh [.d (.agg (itX 1 0)),.d (.int .i64 0),.d (.int .i64 n)] [] (.tup [.d .nilsl,.d (.int .i64 (if 1048576<n then 2 else 12))]) []:=by
 have hg:=o_m7
 have hh:=o_mf n hn
 have he:¬(if 1048576<n then (2:Int) else 12)=0:=by split<;>decide
 refine Eqn.pure o_ej (o_ho _ _) ?_
 generalize (if 1048576<n then (2:Int) else 12)=e at *
 simp only [o_ei,itX] at hg hh ⊢
 refine A12 he hg hh ?_;try with_reducible exact tt
end
section
open Go.RowKit
set_option maxHeartbeats 4000000 in
theorem o_mh (k:Int):Eqn Tryz.prog o_h2 [.d (.agg (itX 1 0)),.d (.agg (itK k))] [] (.tup [.d .nilsl,.d (.int .i64 1)]) []:=by
 have hr:=o_m7
 have hk:=o_mb k
 refine Eqn.pure o_h4 (o_ho _ _) ?_
 simp only [o_h3,itX,itK] at hr hk ⊢
 refine A00 ?_;try with_reducible exact tt
 refine AW.rounds 3 (AWu.next ?_)
 refine A01 hr ?_;try with_reducible exact tt
 refine CallS.pu (hk) (R0 ?_);try with_reducible exact tt
 refine A00 ?_;try with_reducible exact tt

set_option maxHeartbeats 4000000 in
theorem o_mi (k key n:Int):Eqn Tryz.prog o_gt [.d (.int .i64 k),.d (.int .u64 key),.d (.int .i64 n)] [] (.d (.bool true)) []:=by
 have haw:=o_m2
 have ha:=o_mc k
 have hu:=o_md k key n
 have hm:=o_mh k
 have hr:=o_me key n
 have hx:=o_mg (max 17 n) (by omega)
 have hmm:=o_m5
 have ht:=o_m6
 have hrm:=o_m9
 refine Eqn.pure o_gv (o_5o _) ?_
 by_cases hb:1048576<n
 ·have hb2:1048576<max 17 n:=by omega
  rw [if_pos hb2] at hx
  clear hb2
  simp only [o_gu,itX,itK,kmgC] at ha hu hm hr hx hmm hrm ⊢
  refine A06 haw ha hu hm hr hr ?_;try with_reducible exact tt
  refine CallS.pu (hx) (R0 ?_);try with_reducible exact tt
  refine A00 ?_;try with_reducible exact tt
  refine CallS.g [] (hmm) (R0 ?_);try with_reducible exact tt
  refine A00 ?_;try with_reducible exact tt
  refine CallS.g [] (ht) (R0 ?_);try with_reducible exact tt
  refine A00 ?_;try with_reducible exact tt
  refine CallS.g [2] (hrm) (R1 hb ?_);try with_reducible exact tt
 ·have hb2:¬1048576<max 17 n:=by omega
  rw [if_neg hb2] at hx
  clear hb2
  simp only [o_gu,itX,itK,kmgC] at ha hu hm hr hx hmm hrm ⊢
  refine A06 haw ha hu hm hr hr ?_;try with_reducible exact tt
  refine CallS.pu (hx) (R0 ?_);try with_reducible exact tt
  refine A00 ?_;try with_reducible exact tt
  refine CallS.g [] (hmm) (R0 ?_);try with_reducible exact tt
  refine A00 ?_;try with_reducible exact tt
  refine CallS.g [] (ht) (R0 ?_);try with_reducible exact tt
  refine A00 ?_;try with_reducible exact tt
  refine CallS.g [2] (hrm) (R1 hb ?_);try with_reducible exact tt
end
section
open Go.RowKit

theorem o_mj {P:Program} {f:FuncId} {c:C} {rs:List RV} {nt:Nat} (hf:fnOf P f=some (c,rs,nt,false)) (vs:Array Value) (w:World):(callFunc f vs).run P w = .ok (.enter f vs) w:=by
 unfold fnOf at hf
 split at hf
 ·rename_i fn hfn
  split at hf
  ·rename_i b hb
   simp only [Option.some.injEq,Prod.mk.injEq] at hf
   obtain ⟨h1,h2,h3,h4⟩:=hf
   have h1 : ¬ fn.name = "runtime.NumGoroutine" := by simpa using h4
   simp [callFunc,hfn,h1,hb]
  ·cases hf
 ·cases hf

abbrev memW (W:World):Mem:=⟨fun _=>none,fun b=>b<W.heap.size,W⟩

theorem o_mk {P:Program} {f:FuncId} {args:List V} {c:C} {rs:List RV} {nt:Nat} (hf:fnOf P f=some (c,rs,nt,false)) (E:Eqn P f args [] (.d (.bool true)) []) {W:World} {vs:List Value} (h:V.reps (memW W) args vs) (ht:Tabs (memW W)) :
  Calls P f vs.toArray W (fun e W'=>e = .returned (.bool true)∧Same W W'):=by
 rcases E.run (memW W) vs ⟨fun b h=>h,fun n b h=>(by cases h),ht⟩ h (by simp) (fun n i b h=>by simp at h) (fun _ _=>rfl) with ⟨v,h1,_⟩ | ⟨_,h2⟩
 ·rw [o_mj hf] at h1;cases h1
 ·refine h2.mono ?_
  rintro e w' ⟨v,m',rfl,rfl,hE⟩
  have hv:=hE.rep
  rw [V.rep_d] at hv
  unfold D.rep at hv
  subst hv
  exact ⟨rfl,hE.le.os,hE.le.tape,hE.le.output,hE.le.size,fun k hk _=>hE.le.imm k hk⟩

theorem reps_of {I:Nat→Prop} {w:World} {α:Type} (f:α→D) (g:α→Value) (h:∀a,D.rep I w (f a) (g a)):∀l:List α,D.reps I w (l.map f) (l.map g)
 | []=>by simp
 | a::l=>by
  rw [List.map_cons,List.map_cons,D.reps_cons]
  exact ⟨h a,reps_of f g h l⟩
end
section
open Go.RowKit
theorem o_ml {W:World} {g0:Nat} {zs:List Int} (ht:∀g l,tab g=some l→g=g0∧l=zs.map fun z:Int=>D.int .u64 z) (hlt:g0<W.heap.size) (hc:∀(i:Nat) u,(zs.map (Value.int .u64))[i]?=some u→W.cell? ⟨g0,i,none⟩=some u):Tabs (memW W):=by
 intro g l hg
 obtain ⟨rfl,rfl⟩:=ht g l hg
 unfold D.rep
 refine ⟨g,0,rfl,hlt,zs.map (Value.int .u64),fun u hu=>?_,reps_of (fun z:Int=>D.int .u64 z) (Value.int .u64) (fun _=>by unfold D.rep;rfl) zs,fun i u hu=>?_⟩
 ·obtain ⟨z,-,rfl⟩:=List.mem_map.1 hu
  rfl
 ·rw [Nat.zero_add];exact hc i u hu
end
section
open Go.RowKit

theorem tabsIn {W:World} {g0:Nat} {zs:List Int} (ht:∀g l,tab g=some l→g=g0∧l=zs.map fun z:Int=>D.int .u64 z) (hlt:g0<W.heap.size) (hc:∀(i:Nat) u,(zs.map (Value.int .u64))[i]?=some u→W.cell? ⟨g0,i,none⟩=some u):Tabs (memW W):=o_ml ht hlt hc
theorem tabAll:∀g l,tab g=some l→g=2∧l=([1,10,100,1000,10000,100000,1000000,10000000,100000000,1000000000,10000000000,100000000000,1000000000000,10000000000000,100000000000000,1000000000000000,10000000000000000,100000000000000000,1000000000000000000,10000000000000000000]:List Int).map fun z:Int=>D.int .u64 z:=by
 intro g l h
 unfold tab at h
 split at h
 ·cases h
  exact ⟨‹_›,rfl⟩
 ·cases h
end
section
open Go.RowKit
end
section
open Go.RowKit
end
section
open Go.RowKit

theorem ke_walk {W:World} (ht:Tabs (memW W)) {k key n:Int} (_:(Lit.int .u64 key).wf=true):Calls Tryz.prog o_gt #[.int .i64 k,.int .u64 key,.int .i64 n] W (fun e W'=>e = .returned (.bool true)∧Same W W') :=
 o_mk o_gv (o_mi k key n) (V.reps_cons.2 ⟨V.rep_int.2 rfl,V.reps_cons.2 ⟨V.rep_int.2 rfl,V.reps_cons.2 ⟨V.rep_int.2 rfl,V.reps_nil.2 rfl⟩⟩⟩) ht
end
end Go.Proofs.YtpobgdipcbglcaaGreatDoor.Am
